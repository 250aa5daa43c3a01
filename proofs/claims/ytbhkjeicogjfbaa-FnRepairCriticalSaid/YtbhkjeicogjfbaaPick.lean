/- Drawing numbers out of a code: l6Open and pick. pick returns a number from 0 to n-1, moves the place on by one, and writes to the reader alone. Conditions: the place is below 2^40. -/
import Derived.Test.YtbhkjeicogjfbaaBase
import Derived.Laws.BitsAllLaws
import Derived.Laws.BitsLemmas
namespace Go.Proofs.Ytbhkjeicogjfbaa
open Go.RowKit

/-- The reader in block g: the bytes, and the place. -/
def Rd (w : World) (g : Nat) (bs : List Int) (p : Nat) : Prop :=
  ∃ v, SlR bc 1 w g v bs ∧ Blk w g 94 #[v, .int .i64 p] ∧ (∀ n ∈ bs, 0 ≤ n ∧ n ≤ 255) ∧ bs.length ≤ 2000

theorem ofInt_i64 (a : Nat) (ha : a < 9223372036854775808) : (BitVec.ofInt 64 (a : Int)).toNat = a := by
  rw [BitVec.ofInt_natCast, BitVec.toNat_ofNat]; exact Nat.mod_eq_of_lt (by omega)
theorem i64_xor_nn (x y : Int) (hx : 0 ≤ x) (hy : 0 ≤ y) (hx' : x < 9223372036854775808) (hy' : y < 9223372036854775808) : 0 ≤ bits .xor .i64 x y := by
  obtain ⟨a, rfl⟩ := Int.eq_ofNat_of_zero_le hx
  obtain ⟨b, rfl⟩ := Int.eq_ofNat_of_zero_le hy
  have ha : a < 9223372036854775808 := by omega
  have hb : b < 9223372036854775808 := by omega
  have h : a ^^^ b < 2 ^ 63 := Nat.xor_lt_two_pow (by omega) (by omega)
  show 0 ≤ IntKind.i64.wrap ((BitVec.ofInt 64 (a : Int) ^^^ BitVec.ofInt 64 (b : Int)).toNat : Int)
  rw [BitVec.toNat_xor, ofInt_i64 a ha, ofInt_i64 b hb, IntKind.wrap_i64]
  omega

theorem only_setCell {a w : World} {g : Nat} (h : a.grownBy w (some g)) {p : Addr} (hp : p.block = g ∨ a.heap.size ≤ p.block) (u : Value) : a.grownBy (w.setCell p u) (some g) :=
  ⟨h.os, h.tape, h.output, by simpa [World.setCell] using h.size, fun i hi hne => (Below.heap_setCell w p u i (by
    rintro rfl
    rcases hp with hp | hp
    · exact hne (by rw [hp])
    · omega)).trans (h.block i hi hne)⟩
theorem only_refl (w : World) (row : Option Nat) : w.grownBy w row := ⟨rfl, rfl, rfl, Nat.le_refl _, fun _ _ _ => rfl⟩
theorem only_below {a w w' : World} {row : Option Nat} (h : a.grownBy w row) (hb : Below w.heap.size w w') : a.grownBy w' row :=
  ⟨hb.os.trans h.os, hb.tape.trans h.tape, hb.output.trans h.output, Nat.le_trans h.size hb.size, fun i hi hne => (hb.block i (Nat.lt_of_lt_of_le hi h.size)).trans (h.block i hi hne)⟩
theorem only_trans {a b c : World} {row : Option Nat} (h : a.grownBy b row) (k : b.grownBy c row) : a.grownBy c row :=
  ⟨k.os.trans h.os, k.tape.trans h.tape, k.output.trans h.output, Nat.le_trans h.size k.size, fun i hi hne => (k.block i (Nat.lt_of_lt_of_le hi h.size) hne).trans (h.block i hi hne)⟩

theorem Rd.keep {w w' : World} {g p : Nat} {bs : List Int} (h : Rd w g bs p) (hk : ∀ i, i ≤ g → w'.heap[i]? = w.heap[i]?) : Rd w' g bs p := by
  obtain ⟨v, hv, hB, r⟩ := h
  exact ⟨v, hv.keep fun q hq => World.cell?_of_block (hk _ (by omega)), (hk g (Nat.le_refl _)).trans hB, r⟩
theorem Rd.lt {w : World} {g p : Nat} {bs : List Int} (h : Rd w g bs p) : g < w.heap.size := by
  obtain ⟨v, hv, hB, r⟩ := h
  exact hB.lt
theorem Rd.alloc {w : World} {g p : Nat} {bs : List Int} (h : Rd w g bs p) (o : Obj) : Rd (w.alloc o) g bs p :=
  h.keep fun i hi => Below.heap_alloc w o i (by have := h.lt; omega)
theorem Rd.below {w w' : World} {g p : Nat} {bs : List Int} (h : Rd w g bs p) (hb : Below w.heap.size w w') : Rd w' g bs p :=
  h.keep fun i hi => hb.block i (by have := h.lt; omega)
theorem Rd.far {w : World} {g p : Nat} {bs : List Int} (h : Rd w g bs p) {a : Addr} (ha : g < a.block) (u : Value) : Rd (w.setCell a u) g bs p :=
  h.keep fun i hi => Below.heap_setCell w a u i (by omega)
theorem Rd.own {w w' : World} {g p B : Nat} {bs : List Int} {row : Option Nat} (h : Rd w g bs p) (hg : w.grownBy w' row) (hr : ∀ k, row = some k → B ≤ k) (hB : g < B) : Rd w' g bs p :=
  h.keep fun i hi => hg.block i (by have := h.lt; omega) (fun e => by have := hr i e.symm; omega)

/-- What pick answers. -/
def Picked (n r : Int) : Prop := 0 ≤ r ∧ (1 ≤ n → r < n)
def PickPost (bs : List Int) (g p : Nat) (n : Int) (w : World) (e : Ending) (w' : World) : Prop :=
  ∃ r, e = .returned (.int .i64 r) ∧ Picked n r ∧ Rd w' g bs (p + 1) ∧ w.grownBy w' (some g)

set_option maxRecDepth 100000 in
set_option maxHeartbeats 800000 in
theorem pick_any (bs : List Int) (g p : Nat) (n : Int) (w : World) (hR : Rd w g bs p) (hp : p ≤ 1099511627776) :
    Calls Try.prog 91 #[.pointer (some ⟨g, 0, none⟩), .int .i64 n] w (PickPost bs g p n w) := by
  obtain ⟨v, hv, hB, hbs, hlen⟩ := hR
  obtain ⟨A, cap, rfl, hc, hr⟩ := hv
  have c0 : w.cell? ⟨g, 0, none⟩ = some (.slice A bs.length cap) := hB.cell 0
  have c1 : w.cell? ⟨g, 1, none⟩ = some (.int .i64 p) := hB.cell 1
  have z0 := hB.free 0
  have z1 := hB.free 1
  have HB := hide hB
  clear hB
  have hend : Rd (w.setCell ⟨g, 1, none⟩ (.int .i64 ((p : Int) + 1))) g bs (p + 1) := by
    refine ⟨_, ⟨A, cap, rfl, hc, fun hl => ?_⟩, HB.out.put 1 _, hbs, hlen⟩
    obtain ⟨b, off, rfl, hb, hcell⟩ := hr hl
    exact ⟨b, off, rfl, hb, hcell.keep fun q hq => World.cell?_setCell_other w _ q _ (by rintro rfl; simp at hq; omega)⟩
  have hfr : w.grownBy (w.setCell ⟨g, 1, none⟩ (.int .i64 ((p : Int) + 1))) (some g) := only_setCell (only_refl _ _) (.inl rfl) _
  have HE := hide hend
  have HF := hide hfr
  clear hend hfr
  by_cases hn : n < 1
  · go_enter Try.func91, Try.ntmps91
    go_wp2
    go_ret
    exact ⟨0, rfl, ⟨by omega, by omega⟩, HE.out, HF.out⟩
  · by_cases hl0 : bs.length = 0
    · have hb0 : ((bs.length : Int) == 0) = true := by simp [hl0]
      have HL := hide hl0
      clear hl0 hr
      go_enter Try.func91, Try.ntmps91
      go_wp2
      go_ret
      exact ⟨0, rfl, ⟨by omega, by omega⟩, HE.out, HF.out⟩
    · have hb0 : ((bs.length : Int) == 0) = false := by simp; intro h; rw [h] at hl0; exact hl0 rfl
      obtain ⟨b, off, rfl, hb, hcell⟩ := hr (by omega)
      have hl1 : 1 ≤ bs.length := by omega
      clear hr hl0
      have hne : b ≠ g := by omega
      have hne' : g ≠ b := by omega
      by_cases hk : p < bs.length
      · obtain ⟨x, hx⟩ := get_some hk
        have hxb := hbs x (List.mem_of_getElem? hx)
        obtain ⟨hx0, hx1⟩ := hxb
        have q := rowAt1 hcell hx rfl
        clear hx hbs hcell
        go_enter Try.func91, Try.ntmps91
        go_wp2
        go_ret
        exact ⟨x % n, rfl, ⟨Int.emod_nonneg _ (by omega), fun _ => Int.emod_lt_of_pos _ (by omega)⟩, HE.out, HF.out⟩
      · obtain ⟨x, hx⟩ := get_some (l := bs) (i := p % bs.length) (Nat.mod_lt _ (by omega))
        obtain ⟨y, hy⟩ := get_some (l := bs) (i := (p * 7 + 3) % bs.length) (Nat.mod_lt _ (by omega))
        obtain ⟨hx0, hx1⟩ := hbs x (List.mem_of_getElem? hx)
        obtain ⟨hy0, hy1⟩ := hbs y (List.mem_of_getElem? hy)
        have q1 := rowAt1 hcell hx rfl
        have q2 := rowAt1 hcell hy rfl
        have HBS := hide hbs
        have HC := hide hcell
        clear hx hy hbs hcell
        go_enter Try.func91, Try.ntmps91
        go_upto_region 7 with fail
        obtain ⟨w1, hw1⟩ : ∃ w1, w1 = w.setCell ⟨g, 1, none⟩ (.int .i64 ((p : Int) + 1)) := ⟨_, rfl⟩
        have d0 : w1.cell? ⟨g, 0, none⟩ = some (.slice (some ⟨b, off, none⟩) bs.length cap) := by rw [hw1]; simp [go_sem, c0]
        have d1 : w1.cell? ⟨b, off + p % bs.length, none⟩ = some (.int .u8 x) := by rw [hw1]; simp [go_sem, q1]
        have d2 : w1.cell? ⟨b, off + (p * 7 + 3) % bs.length, none⟩ = some (.int .u8 y) := by rw [hw1]; simp [go_sem, q2]
        have HF1 : w.grownBy w1 (some g) := by rw [hw1]; exact HF.out
        have HE1 : Rd w1 g bs (p + 1) := by rw [hw1]; exact HE.out
        rw [← hw1]
        clear hw1 HE HF c0 c1 q1 q2 z0 z1 HB
        have HF2 := hide HF1
        have HE2 := hide HE1
        clear HF1 HE1
        have m1 : p % bs.length < bs.length := Nat.mod_lt _ (by omega)
        have m2 : (p * 7 + 3) % bs.length < bs.length := Nat.mod_lt _ (by omega)
        have m3 : (p : Int) / (bs.length : Int) ≤ (p : Int) := Int.ediv_le_self _ (by omega)
        have m4 : 0 ≤ (p : Int) / (bs.length : Int) := Int.ediv_nonneg (by omega) (by omega)
        have m6 : (((p : Int) * 7 + 3) % (bs.length : Int)) = (((p * 7 + 3) % bs.length : Nat) : Int) := by simp
        have m5 : 0 ≤ ((p : Int) * 7 + 3) % (bs.length : Int) := by omega
        have m7 : ((p : Int) * 7 + 3) % (bs.length : Int) < (bs.length : Int) := by omega
        have m8 : (((p : Int) * 7 + 3) % (bs.length : Int)).toNat = (p * 7 + 3) % bs.length := by omega
        clear m6
        go_cut [6] (fun s wx => ∃ z : Int, s = .int .i64 z ∧ 0 ≤ z ∧ z ≤ 1125899906842624 ∧ Below w1.heap.size w1 wx)
        case first =>
          have e0 := fun x => wext_cell w1 x d0
          have e1 := fun x => wext_cell w1 x d1
          have e2 := fun x => wext_cell w1 x d2
          refine region_q (by kernel_rfl) (by kernel_rfl) ?_
          repeat (go_big_quiet_step ((first | (fail))))
          refine wpQuiet_nil ?_
          intro wx hbx
          go_wp2_with fail
          go_meet
          refine ⟨_, rfl, by omega, by omega, hbx⟩
        case rest =>
          obtain ⟨z, rfl, hz0, hz1, hb2⟩ := hcut
          have hz2 : 0 ≤ z / 64 := by omega
          have hxn := i64_xor_nn z (z / 64) hz0 hz2 (by omega) (by omega)
          go_wp2
          go_ret
          refine ⟨_, rfl, ⟨Int.emod_nonneg _ (by omega), fun _ => Int.emod_lt_of_pos _ (by omega)⟩, ?_, only_below HF2.out hb2⟩
          obtain ⟨v, hv, hB, r⟩ := HE2.out
          exact ⟨v, hv.keep fun q hq => hb2.cell (by have := hB.lt; omega), hB.up hb2, r⟩

/-- What l6Open leaves: a reader in a new block. -/
def OpenPost (w : World) (e : Ending) (w' : World) : Prop :=
  ∃ (g : Nat) (bs : List Int), e = .returned (.pointer (some ⟨g, 0, none⟩)) ∧ w.heap.size ≤ g ∧ Rd w' g bs 0 ∧ Below w.heap.size w w'

theorem open_any (v : Value) (bs : List Int) (w : World) (hv : SlR bc 1 w w.heap.size v bs) (hm : bs.length ≤ 9223372036854775807 ∧ ∀ n ∈ bs, 0 ≤ n ∧ n ≤ 255) :
    Calls Try.prog 50 #[v] w (OpenPost w) := by
  obtain ⟨A, cap, rfl, hc, hr⟩ := hv
  obtain ⟨hm, hb8⟩ := hm
  have HB8 := hide hb8
  clear hb8
  by_cases hl : bs.length ≤ 2000
  · have HR := hide hr
    clear hr
    go_enter Try.func50, Try.ntmps50
    go_wp2
    go_ret
    refine ⟨w.heap.size, bs, rfl, Nat.le_refl _, ⟨_, ⟨A, cap, rfl, hc, fun h => ?_⟩, Blk.new _ _ _, HB8.out, hl⟩, below1 _ _⟩
    obtain ⟨b, off, rfl, hb, hcell⟩ := HR.out h
    exact ⟨b, off, rfl, hb, hcell.keep fun q hq => (below1 w _).cell (by omega)⟩
  · obtain ⟨b, off, rfl, hb, hcell⟩ := hr (by omega)
    have HC := hide hcell
    clear hr hcell
    go_enter Try.func50, Try.ntmps50
    go_wp2
    go_ret
    have htl : (bs.take 2000).length = 2000 := by simp; omega
    refine ⟨w.heap.size, bs.take 2000, rfl, Nat.le_refl _, ⟨_, ⟨_, cap, by rw [htl], by omega, fun h => ⟨b, off, rfl, hb, fun i x hi j u hu => ?_⟩⟩, Blk.new _ _ _, fun n hn => HB8.out n (List.mem_of_mem_take hn), by omega⟩, below1 _ _⟩
    have hil : i < 2000 := by have := get_lt hi; omega
    rw [List.getElem?_take, if_pos hil] at hi
    exact ((below1 w _).cell (by exact hb)).trans (HC.out i x hi j u hu)
end Go.Proofs.Ytbhkjeicogjfbaa
