/- Mixed tables: in plain Lean; slices.Contains, IndexFunc, ContainsFunc, DeleteFunc at int, Repeat at bool; mixedHops, MixedHops, MixedLoop and MixedArrives of the program. Conditions: at most 1048576 links and changed nodes. -/
import Derived.Test.YtbhkjeicogjfbaaHopN
import Derived.Test.YtbhkjeicogjfbaaWithout2
import Derived.Test.YtbhkjeicogjfbaaSelI
namespace Go.Proofs.Ytbhkjeicogjfbaa
open Go.RowKit


/-! ### Steps forward -/
/-- From n, x can be reached by i hops. -/
def Fwd (R : Int → List Int) : Nat → Int → Int → Prop
  | 0, n, x => x = n
  | i + 1, n, x => ∃ z, Fwd R i n z ∧ x ∈ R z
theorem fwd_stp {R : Int → List Int} : ∀ (i j : Nat) (n : Int), (∃ x, Fwd R i n x ∧ Stp R j x) ↔ Stp R (i + j) n
  | 0, j, n => by
    rw [Nat.zero_add]
    constructor
    · rintro ⟨x, h, hs⟩
      cases (show x = n from h)
      exact hs
    · intro h
      exact ⟨n, rfl, h⟩
  | i + 1, j, n => by
    rw [show i + 1 + j = i + (j + 1) from by omega, ← fwd_stp i (j + 1) n]
    constructor
    · rintro ⟨x, ⟨z, h1, h2⟩, h3⟩
      exact ⟨z, h1, x, h2, h3⟩
    · rintro ⟨z, h1, x, h2, h3⟩
      exact ⟨x, ⟨z, h1, h2⟩, h3⟩
theorem fwd_all {R : Int → List Int} (N : Nat) (n : Int) : (∃ x, Fwd R N n x) ↔ Stp R N n := by
  rw [← Nat.add_zero N, ← fwd_stp N 0 n, Nat.add_zero]
  exact ⟨fun ⟨x, h⟩ => ⟨x, h, trivial⟩, fun ⟨x, h, _⟩ => ⟨x, h⟩⟩

/-! ### Layers of arrivals -/
/-- All packets from x arrive at y over less than j hops. -/
def AL (R : Int → List Int) (y : Int) : Nat → Int → Prop
  | 0, _ => False
  | j + 1, x => x = y ∨ (R x ≠ [] ∧ ∀ m, m ∈ R x → AL R y j m)
theorem AL.more {R : Int → List Int} {y : Int} : ∀ {j : Nat} {x : Int}, AL R y j x → AL R y (j + 1) x
  | 0, _, h => h.elim
  | _ + 1, _, h => h.elim .inl fun ⟨h1, h2⟩ => .inr ⟨h1, fun m hm => AL.more (h2 m hm)⟩
theorem arr_AL {R : Int → List Int} {y : Int} {N : Nat} (hR : ∀ x m : Int, m ∈ R x → 0 ≤ m ∧ m < N) {x : Int} (hx : 0 ≤ x ∧ x < N) (h : Arr R y x) : AL R y N x := by
  have st : ∀ x : Int, 0 ≤ x ∧ x < N → AL R y (N + 1) x → AL R y N x := by
    intro x hx h
    apply Classical.byContradiction
    intro hn
    refine shrink (N := N) (fun j x => ¬ AL R y j x) (fun j x h h' => h h'.more) (fun j hj x hx h1 h2 => ?_) x hx hn h
    rcases h2 with h2 | ⟨h2, h3⟩
    · exact h1 (.inl h2)
    · exact h1 (.inr ⟨h2, fun m hm => Classical.byContradiction fun hm' => hj m (hR x m hm) hm' (h3 m hm)⟩)
  induction h with
  | here =>
    obtain ⟨k, rfl⟩ : ∃ k, N = k + 1 := ⟨N - 1, by omega⟩
    exact .inl rfl
  | on h1 h2 ih =>
    rename_i x
    exact st x hx (.inr ⟨h1, fun m hm => ih m hm (hR x m hm)⟩)

/-! ### Lists of Bools as sets of nodes -/
/-- x is in the set. -/
def bAt (B : List Bool) (x : Int) : Prop := 0 ≤ x ∧ B[x.toNat]? = some true
theorem bAt_nat {B : List Bool} {k : Nat} : bAt B (k : Int) ↔ B[k]? = some true := by
  unfold bAt
  rw [Int.toNat_natCast]
  exact ⟨fun h => h.2, fun h => ⟨by omega, h⟩⟩
theorem bAt_lt {B : List Bool} {x : Int} (h : bAt B x) : 0 ≤ x ∧ x < B.length := by
  have := get_lt h.2
  have := h.1
  omega
theorem bAt_get {B : List Bool} {k : Nat} {b : Bool} (h : B[k]? = some b) : tb (bAt B (k : Int)) = b := by
  rw [tb_iff bAt_nat, h]
  cases b with
  | true => exact tb_yes rfl
  | false => exact tb_no (by simp)
theorem bAt_no {n : Nat} {x : Int} : ¬ bAt (List.replicate n false) x := by
  rintro ⟨_, h⟩
  rw [List.getElem?_replicate] at h
  split at h <;> simp at h
theorem bAt_yes {n : Nat} {x : Int} : bAt (List.replicate n true) x ↔ 0 ≤ x ∧ x < n := by
  unfold bAt
  rw [List.getElem?_replicate]
  by_cases h : x.toNat < n
  · rw [if_pos h]
    exact ⟨fun h1 => ⟨h1.1, by omega⟩, fun h1 => ⟨h1.1, rfl⟩⟩
  · rw [if_neg h]
    exact ⟨fun h1 => by simp at h1, fun h1 => absurd h1 (by omega)⟩
theorem bAt_set {B : List Bool} {k : Nat} {b : Bool} (hk : k < B.length) {x : Int} : bAt (B.set k b) x ↔ (x = k ∧ b = true) ∨ (x ≠ k ∧ bAt B x) := by
  unfold bAt
  by_cases hx : x = k
  · subst hx
    rw [Int.toNat_natCast, List.getElem?_set_self hk]
    constructor
    · rintro ⟨_, h⟩
      exact .inl ⟨rfl, by simpa using h⟩
    · rintro (⟨_, h⟩ | ⟨h, _⟩)
      · exact ⟨by omega, by rw [h]⟩
      · exact absurd rfl h
  · by_cases h0 : 0 ≤ x
    · rw [List.getElem?_set_ne (by omega)]
      exact ⟨fun h => .inr ⟨hx, h⟩, fun h => h.elim (fun h => absurd h.1 hx) fun h => h.2⟩
    · exact ⟨fun h => absurd h.1 h0, fun h => h.elim (fun h => absurd h.1 hx) fun h => absurd h.2.1 h0⟩
theorem bAt_app {B : List Bool} {b : Bool} {x : Int} : bAt (B ++ [b]) x ↔ (x = B.length ∧ b = true) ∨ bAt B x := by
  unfold bAt
  by_cases hx : x = (B.length : Int)
  · subst hx
    rw [Int.toNat_natCast, List.getElem?_append_right (Nat.le_refl _), Nat.sub_self, List.getElem?_eq_none (Nat.le_refl _)]
    constructor
    · rintro ⟨_, h⟩
      exact .inl ⟨rfl, by simpa using h⟩
    · rintro (⟨_, h⟩ | ⟨_, h⟩)
      · exact ⟨by omega, by simpa using h⟩
      · cases h
  · by_cases h0 : 0 ≤ x
    · rcases Nat.lt_or_ge x.toNat B.length with h1 | h1
      · rw [List.getElem?_append_left h1]
        exact ⟨fun h => .inr h, fun h => h.elim (fun h => absurd h.1 hx) fun h => h⟩
      · have h2 : (B ++ [b])[x.toNat]? = none := List.getElem?_eq_none (by simp; omega)
        have h3 : B[x.toNat]? = none := List.getElem?_eq_none h1
        rw [h2, h3]
        exact ⟨fun h => by simp at h, fun h => h.elim (fun h => absurd h.1 hx) fun h => by simp at h⟩
    · exact ⟨fun h => absurd h.1 h0, fun h => h.elim (fun h => absurd h.1 hx) fun h => absurd h.1 h0⟩
/-- The set of arrivals in round r, when the nodes below n have been looked at. -/
structure ImA (R : Int → List Int) (y : Int) (N r n : Nat) (B : List Bool) : Prop where
  len : B.length = N
  sup : ∀ x, bAt B x → x = y ∨ (R x ≠ [] ∧ ∀ m, m ∈ R x → bAt B m)
  arr : ∀ x, bAt B x → Arr R y x
  old : ∀ x : Int, 0 ≤ x ∧ x < N → AL R y r x → bAt B x
  new : ∀ x : Int, 0 ≤ x ∧ x < n → AL R y (r + 1) x → bAt B x
section
variable {R : Int → List Int} {y : Int} {N r n : Nat} {B : List Bool}
theorem imA_start (R : Int → List Int) (y : Int) (N : Nat) : ImA R y N 0 0 (List.replicate N false) :=
  ⟨by simp, fun _ h => absurd h bAt_no, fun _ h => absurd h bAt_no, fun _ _ h => h.elim, fun _ h => by omega⟩
theorem imA_start1 (R : Int → List Int) {k N : Nat} (hk : k < N) : ImA R (k : Int) N 0 0 ((List.replicate N false).set k true) := by
  have hs : ∀ x, bAt ((List.replicate N false).set k true) x → x = (k : Int) := fun x h => by
    rcases (bAt_set (by simpa using hk)).1 h with h | h
    · exact h.1
    · exact absurd h.2 bAt_no
  exact ⟨by simp, fun x h => .inl (hs x h), fun x h => by rw [hs x h]; exact .here, fun _ _ h => h.elim, fun _ h => by omega⟩
/-- What decides on n. -/
def Fit (R : Int → List Int) (y : Int) (B : List Bool) (n : Int) : Prop := n = y ∨ (R n ≠ [] ∧ ∀ m, m ∈ R n → bAt B m)
theorem ImA.grow (h : ImA R y N r n B) (hn : n < N) {b : Bool} (hb : Fit R y B n → b = true) {x : Int} (hx : bAt B x) : bAt (B.set n b) x := by
  rw [bAt_set (by rw [h.len]; exact hn)]
  by_cases hxn : x = n
  · subst hxn
    exact .inl ⟨rfl, hb (h.sup _ hx)⟩
  · exact .inr ⟨hxn, hx⟩
theorem ImA.step (hR : ∀ x m : Int, m ∈ R x → 0 ≤ m ∧ m < N) (h : ImA R y N r n B) (hn : n < N) {b : Bool} (hb : b = true ↔ Fit R y B n) : ImA R y N r (n + 1) (B.set n b) := by
  have hg := fun {x : Int} => h.grow (x := x) hn hb.2
  have hi : ∀ x, bAt (B.set n b) x → (x = n ∧ Fit R y B n) ∨ bAt B x := fun x hx => by
    rcases (bAt_set (by rw [h.len]; exact hn)).1 hx with h1 | h1
    · exact .inl ⟨h1.1, hb.1 h1.2⟩
    · exact .inr h1.2
  have hin : Fit R y B n → bAt (B.set n b) n := fun hf => (bAt_set (by rw [h.len]; exact hn)).2 (.inl ⟨rfl, hb.2 hf⟩)
  refine ⟨by rw [List.length_set]; exact h.len, fun x hx => ?_, fun x hx => ?_, fun x hx h1 => hg (h.old x hx h1), fun x hx h1 => ?_⟩
  · rcases hi x hx with ⟨h1, h2⟩ | h1
    · subst h1
      exact h2.imp id fun h3 => ⟨h3.1, fun m hm => hg (h3.2 m hm)⟩
    · exact (h.sup x h1).imp id fun h3 => ⟨h3.1, fun m hm => hg (h3.2 m hm)⟩
  · rcases hi x hx with ⟨h1, h2⟩ | h1
    · subst h1
      rcases h2 with h2 | h2
      · rw [h2]; exact .here
      · exact .on h2.1 fun m hm => h.arr m (h2.2 m hm)
    · exact h.arr x h1
  · by_cases hxn : x = n
    · subst hxn
      exact hin (h1.imp id fun h2 => ⟨h2.1, fun m hm => h.old m (hR _ m hm) (h2.2 m hm)⟩)
    · exact hg (h.new x (by omega) h1)
theorem ImA.round (h : ImA R y N r N B) : ImA R y N (r + 1) 0 B := ⟨h.len, h.sup, h.arr, h.new, fun _ h => by omega⟩
theorem ImA.done (hR : ∀ x m : Int, m ∈ R x → 0 ≤ m ∧ m < N) (h : ImA R y N N n B) {x : Int} (hx : 0 ≤ x ∧ x < N) : bAt B x ↔ Arr R y x :=
  ⟨h.arr x, fun h1 => h.old x hx (arr_AL hR hx h1)⟩
end

/-! ### The mixed tables of a graph -/
/-- The arguments of mixed tables are valid. -/
noncomputable def mixR (g : Gr) (k y : Int) (ch : List Int) (x : Int) : List Int := mixL g (lkOf g k) k.toNat y ch x
noncomputable def mixX (g : Gr) (k y : Int) (ch : List Int) (x : Int) : List Int := okL (Ok g x k ∧ Nd g y) (mixR g k y ch x)
noncomputable def loopX (g : Gr) (k y : Int) (ch : List Int) : List Int := okL (Ok g y k) (selTo (Stp (mixR g k y ch) g.n.toNat) g.n.toNat)
noncomputable def arrX (g : Gr) (k y : Int) (ch : List Int) : List Int := okL (Ok g y k) (selTo (Arr (mixR g k y ch) y) g.n.toNat)
theorem mixR_in {g : Gr} (hg : GV g) {k y : Int} {ch : List Int} (x m : Int) (h : m ∈ mixR g k y ch x) : 0 ≤ m ∧ m < g.n.toNat := by
  have h1 := (mix_nd hg h).2
  unfold Nd at h1
  omega


/-! ### Lists of Bools in memory -/
def blc (b : Bool) : List Value := [.bool b]
theorem blc_len (b : Bool) : (blc b).length = 1 := rfl
theorem blc_one (b : Bool) : ∀ u ∈ blc b, u.oneCell' = true := by
  intro u hu
  simp only [blc, List.mem_cons, List.not_mem_nil, or_false] at hu
  rw [hu]; rfl
theorem boolAt {w : World} {b off k : Nat} {cs : List Bool} {c : Bool} (h : RowsAt blc 1 w b off cs) (hk : cs[k]? = some c) : w.cell? ⟨b, off + k, none⟩ = some (.bool c) := by
  have := h k c hk 0 _ rfl
  rwa [Nat.mul_one, Nat.add_zero] at this
theorem Try.infoB : (Try.prog.info? 4).map (fun i => (i.zero, i.size, i.bytes)) = some (some (.bool false), 1, 1) := by kernel_rfl
theorem infB : SlInf Try.prog 77 4 blc 1 := by
  obtain ⟨i0, hi, hz0, hz1, hz2⟩ := info_parts Try.infoB
  exact ⟨Try.underlying77, ⟨i0, _, hi, hz0, hz1, by rw [hz2]; decide, rfl⟩, by decide, blc_len, blc_one⟩
theorem flat_blc (n : Nat) (x : Bool) : (List.replicate n x).flatMap blc = List.replicate n (.bool x) := by
  induction n with
  | zero => rfl
  | succ n ih => rw [List.replicate_succ, List.flatMap_cons, ih]; rfl
set_option maxRecDepth 100000 in
set_option maxHeartbeats 1600000 in
theorem repeatB_any (x : Bool) (n vb : Nat) (w : World) (hn : 1 ≤ n ∧ n ≤ 8) (hV : Blk w vb 4 #[Value.bool x]) :
    Calls Try.prog 67 #[.slice (some ⟨vb, 0, none⟩) 1 1, .int .i64 n] w fun e w' => ∃ o, e = .returned (.slice (some ⟨o, 0, none⟩) n n) ∧ Own blc 4 1 w' w.heap.size (.slice (some ⟨o, 0, none⟩) n n) (List.replicate n x) ∧ Below w.heap.size w w' := by
  obtain ⟨hn1, hn2⟩ := hn
  obtain ⟨i0, hi, hz0, hz1, hz2⟩ := info_parts Try.infoB
  have hsz : (Try.prog.info? 4).map (·.size) = some 1 := by rw [hi]; simp [hz1]
  have hmk := fun W => run_make_n (P := Try.prog) 77 4 i0 _ Try.underlying77 hi hz0 .i64 .i64 n n (Nat.le_refl _) (by rw [hz2]; omega) (by omega) W
  rw [hz1] at hmk
  obtain ⟨g, hg⟩ : ∃ g, g = w.heap.size := ⟨_, rfl⟩
  obtain ⟨w1, hw1⟩ : ∃ w1, w1 = w.alloc (.cells (madeCells #[Value.bool false] n) 4) := ⟨_, rfl⟩
  have hb1 : Below w.heap.size w w1 := by rw [hw1]; exact below1 _ _
  have own1 : w1.ownsRow w.heap.size 4 1 (.slice (some ⟨g, 0, none⟩) n n) n (List.replicate 0 (Value.bool x) ++ List.replicate (n - 0) (Value.bool false)) := by
    have h := World.ownsRow_lit (e := 4) (size := 1) (base := w.heap.size) w (madeCells #[Value.bool false] n) n (Nat.le_refl _) (by unfold maxLen; omega) (by simp [madeCells])
    have e : (madeCells #[Value.bool false] n).toList = List.replicate n (Value.bool false) := toList_madeCells_one _ _
    rw [e] at h
    rw [hw1, hg]
    simpa using h
  have hV1 : Blk w1 vb 4 #[Value.bool x] := hV.up hb1
  have hcp : ∀ (W : World) (k m : Nat) (s : Addr) (sl : Nat), W.ownsRow w.heap.size 4 1 (.slice (some ⟨g, 0, none⟩) n n) n (List.replicate k (Value.bool x) ++ List.replicate (n - k) (Value.bool false)) → m = Nat.min sl (n - k) → k < n →
      (∀ j u, (List.replicate m (Value.bool x))[j]? = some u → W.cell? (s.add j) = some u) → ∀ ty dc sc, (Builtin.copy_ #[77, 77] ty #[.slice (some ⟨g, k, none⟩) (n - k) dc, .slice (some s) sl sc]).run Try.prog W = .ok (.int .i64 (m : Int)) (W.setCells g k (List.replicate m (Value.bool x))) := by
    intro W k m s sl hW hm hk hs ty dc sc
    have h := run_copyK (P := Try.prog) W 77 77 ty 4 1 g k (n - k) dc s sl sc (List.replicate m (Value.bool x)) Try.underlying77 hsz (by rw [List.length_replicate, Nat.mul_one, hm]) hs
      (fun j hj => own_slots hW _ (by rw [List.length_replicate, hm] at hj; have hmm : Nat.min sl (n - k) ≤ n - k := Nat.min_le_right _ _; omega)) (fun j _ => World.ownsRow.frozenAt hW _) (fun v hv => by have := List.eq_of_mem_replicate hv; rw [this]; rfl)
    rw [← hm] at h
    exact h
  have h1 := hcp w1 0 1 ⟨vb, 0, none⟩ 1 own1 (by simp only [Nat.min_def]; split <;> omega) (by omega) (fun j u hu => by
    have hj := get_lt hu
    rw [List.length_replicate] at hj
    obtain rfl : j = 0 := by omega
    simp at hu
    rw [add_off, hV1.cell, ← hu]; rfl)
  obtain ⟨own2, hg2⟩ := own_cells (List.replicate 1 (Value.bool x)) 0 w1 _ own1
  rw [rep_step _ _ n 0 1 (by omega)] at own2
  obtain ⟨w2, hw2⟩ : ∃ w2, w2 = w1.setCells g 0 (List.replicate 1 (Value.bool x)) := ⟨_, rfl⟩
  rw [← hw2] at h1 own2 hg2
  have hb2 : Below w.heap.size w w2 := hb1.grown hg2 hb1.size fun q hq => by injection hq; omega
  have HCP := hide hcp
  have HO2 := hide own2
  clear hcp own1 own2 hV1 hg2 hi hz0 hz1 hz2 hsz
  have q0 : (0 : Int) ≤ n := by omega
  clear hw2
  subst hg
  go_enter Try.func67, Try.ntmps67
  go_wp2_with fail
  refine (mul_any n _ hn2).mono ?_
  rintro e w ⟨rfl, rfl⟩
  go_upto_region 7 with fail
  rw [← hw1]
  clear hw1
  go_wp2_with (refine wpList_copy_r _ rfl (.tmp 31) (.tmp 32) _ _ rfl _ _ rfl rfl (h1 _ _ _) ?_)
  clear h1 hmk
  go_loopg [8] (n) (fun gg iv wr => ∃ k : Nat, iv = .int .i64 k ∧ 1 ≤ k ∧ k ≤ n ∧ n - k ≤ gg ∧ Below w.heap.size w wr ∧ Hid (wr.ownsRow w.heap.size 4 1 (.slice (some ⟨w.heap.size, 0, none⟩) n n) n (List.replicate k (Value.bool x) ++ List.replicate (n - k) (Value.bool false))))
  case atStart => exact ⟨1, rfl, by omega, by omega, by omega, hb2, HO2⟩
  case round =>
    obtain ⟨k, rfl, hk1, hk2, hkg, hbe, HO⟩ := hrel
    by_cases hlt : k < n
    · obtain ⟨m, hm⟩ : ∃ m, m = Nat.min k (n - k) := ⟨_, rfl⟩
      have hmk : m ≤ k := by rw [hm]; exact Nat.min_le_left _ _
      have hmn : m ≤ n - k := by rw [hm]; exact Nat.min_le_right _ _
      have hm1 : 1 ≤ m := by rw [hm]; simp only [Nat.min_def]; split <;> omega
      have hr := HCP.out wr.drew k m ⟨w.heap.size, 0, none⟩ k (World.ownsRow.drew HO.out) hm hlt (fun j u hu => by
        have hj := get_lt hu
        rw [List.length_replicate] at hj
        rw [add_off, Nat.zero_add, World.ownsRow.cellAt (World.ownsRow.drew HO.out) j (by omega), List.getElem?_append_left (by simp; omega)]
        rw [List.getElem?_replicate] at hu ⊢
        rw [if_pos (by omega)] at hu ⊢
        exact hu)
      obtain ⟨own3, hg3⟩ := own_cells (List.replicate m (Value.bool x)) k wr.drew _ (World.ownsRow.drew HO.out)
      rw [rep_step _ _ n k m (by omega)] at own3
      obtain ⟨w3, hw3⟩ : ∃ w3, w3 = wr.drew.setCells w.heap.size k (List.replicate m (Value.bool x)) := ⟨_, rfl⟩
      rw [← hw3] at hr own3 hg3
      have hb3 : Below w.heap.size w w3 := (hbe.drew).grown hg3 hbe.size fun q hq => by injection hq; omega
      have HO3 := hide own3
      clear own3 hg3 hw3 HO hm hbe
      have q1 : (k : Int) ≤ n := by omega
      have q2 : (0 : Int) ≤ k := by omega
      have q3 : k ≤ n := hk2
      have q4 : ¬ (n = k) := by omega
      have q5 : IntKind.i64.wrap ((k : Int) + (m : Int)) = (k : Int) + (m : Int) := by rw [IntKind.wrap_i64]; omega
      go_upto_region 9 with fail
      go_region_law (refine step_copy_r (by rfl) (.tmp 41) (.tmp 44) 77 77 (by rfl) (.slice (some ⟨w.heap.size, k, none⟩) (n - k) (n - k)) (.slice (some ⟨w.heap.size, 0, none⟩) k n) (by simp [Act.eval, Act.put]) (by simp [Act.eval, Act.put]) (hr 4 (n - k) n) ?_)
      go_wp2
      go_roundg (gk - 1)
      case measure => omega
      case rel => exact ⟨k + m, by go_num, by omega, by omega, by omega, hb3, HO3⟩
    · obtain rfl : k = n := by omega
      go_wp2
      go_ret
      refine ⟨_, rfl, ?_, hbe⟩
      have h := HO.out
      rw [Nat.sub_self, List.replicate_zero, List.append_nil] at h
      unfold Own
      rw [flat_blc, List.length_replicate]
      exact h
theorem own_bool {W : World} {base o cap n k : Nat} {B : List Bool} {b : Bool} (h : Own blc 4 1 W base (.slice (some ⟨o, 0, none⟩) n cap) B) (hk : B[k]? = some b) : W.cell? ⟨o, k, none⟩ = some (.bool b) := by
  have h1 := boolAt (h.rows blc_len (by have := get_lt hk; omega)) hk
  rwa [Nat.zero_add] at h1

/-! ### Slices of slices of ints in memory -/
structure Sv where
  A : Option Addr
  n : Nat
  cap : Nat
def svc (s : Sv) : List Value := [.slice s.A s.n s.cap]
theorem svc_len (s : Sv) : (svc s).length = 1 := rfl
theorem svc_one (s : Sv) : ∀ u ∈ svc s, u.oneCell' = true := by
  intro u hu
  simp only [svc, List.mem_cons, List.not_mem_nil, or_false] at hu
  rw [hu]; rfl
theorem Try.infoV : (Try.prog.info? 28).map (fun i => (i.zero, i.size, i.bytes)) = some (some (.slice none 0 0), 1, 24) := by kernel_rfl
theorem infV : SlInf Try.prog 75 28 svc 1 := by
  obtain ⟨i0, hi, hz0, hz1, hz2⟩ := info_parts Try.infoV
  exact ⟨Try.underlying75, ⟨i0, _, hi, hz0, hz1, by rw [hz2]; decide, rfl⟩, by decide, svc_len, svc_one⟩
theorem slr_sv (W : World) (A : Option Addr) (n cap : Nat) : SlR svc 1 (W.alloc (Obj.cells #[.slice A n cap] 28)) (W.heap.size + 1) (.slice (some ⟨W.heap.size, 0, none⟩) 1 1) [⟨A, n, cap⟩] :=
  slr_one (Blk.new W 28 #[.slice A n cap]) rfl (by omega)
/-- The value v reads as the lists M, all of the call's own. -/
structure Mat (W : World) (base : Nat) (v : Value) (us : List Sv) (M : List (List Int)) : Prop where
  o : Own svc 28 1 W base v us
  len : us.length = M.length
  el : ∀ (i : Nat) (s : Sv) (L : List Int), us[i]? = some s → M[i]? = some L → Own ic 3 1 W base (.slice s.A s.n s.cap) L
theorem Mat.below {W W' : World} {base : Nat} {v : Value} {us : List Sv} {M : List (List Int)} (h : Mat W base v us M) (hb : Below W.heap.size W W') : Mat W' base v us M :=
  ⟨h.o.below hb, h.len, fun i s L hs hL => (h.el i s L hs hL).below hb⟩
theorem Mat.low {W : World} {base base' : Nat} {v : Value} {us : List Sv} {M : List (List Int)} (h : Mat W base v us M) (hb : base' ≤ base) : Mat W base' v us M :=
  ⟨h.o.low hb, h.len, fun i s L hs hL => (h.el i s L hs hL).low hb⟩
theorem Mat.grown {W W' : World} {base : Nat} {v v' : Value} {us : List Sv} {M : List (List Int)} {A : Option Addr} {n cap : Nat} {L : List Int} (h : Mat W base v us M) (hL : Own ic 3 1 W base (.slice A n cap) L) (hO : Own svc 28 1 W' base v' (us ++ [⟨A, n, cap⟩])) (hg : W.grownBy W' v.ownBlock) :
    Mat W' base v' (us ++ [⟨A, n, cap⟩]) (M ++ [L]) := by
  refine ⟨hO, by rw [List.length_append, List.length_append, h.len]; rfl, fun i s L' hs hL' => ?_⟩
  have key : ∀ {A' : Option Addr} {n' cap' : Nat} {L' : List Int}, Own ic 3 1 W base (.slice A' n' cap') L' → Own ic 3 1 W' base (.slice A' n' cap') L' :=
    fun k => own_grown k hg fun q hq => own_types k h.o (by decide) q hq
  rcases Nat.lt_or_ge i us.length with hi | hi
  · rw [List.getElem?_append_left hi] at hs
    rw [List.getElem?_append_left (by rw [← h.len]; exact hi)] at hL'
    exact key (h.el i s L' hs hL')
  · have hi2 := get_lt hs
    rw [List.length_append, List.length_singleton] at hi2
    obtain rfl : i = us.length := by omega
    rw [List.getElem?_append_right (Nat.le_refl _), Nat.sub_self] at hs
    rw [h.len, List.getElem?_append_right (Nat.le_refl _), Nat.sub_self] at hL'
    cases hs
    cases hL'
    exact key hL
theorem Mat.at {W : World} {base o cap n : Nat} {us : List Sv} {M : List (List Int)} (h : Mat W base (.slice (some ⟨o, 0, none⟩) n cap) us M) {i : Nat} {L : List Int} (hL : M[i]? = some L) :
    ∃ A c, W.cell? ⟨o, i, none⟩ = some (.slice A L.length c) ∧ Own ic 3 1 W base (.slice A L.length c) L := by
  have hi : i < us.length := by rw [h.len]; exact get_lt hL
  obtain ⟨s, hs⟩ := get_some hi
  have h1 := h.el i s L hs hL
  obtain ⟨A, c, he, _⟩ := h1.lit
  have h2 := (h.o.rows svc_len (by omega)) i s hs 0 _ rfl
  rw [Nat.zero_add, Nat.mul_one, Nat.add_zero] at h2
  rw [he] at h1 h2
  exact ⟨A, c, h2, h1⟩
theorem Mat.nil (W : World) {base : Nat} (hb : base ≤ W.heap.size) : Mat (W.alloc (.cells #[] 28)) base (.slice (some ⟨W.heap.size, 0, none⟩) 0 0) [] [] :=
  ⟨ownE W _ hb, rfl, fun i s L hs _ => by simp at hs⟩

/-! ### Searching -/
set_option maxHeartbeats 800000 in
theorem index1_any (v : Value) (L : List Int) (x : Int) (w : World) (hv : SlR ic 1 w w.heap.size v L) (hn : L.length ≤ 1048576) :
    Calls Try.prog 114 #[v, .int .i64 x] w fun e w' => (∃ r : Int, e = .returned (.int .i64 r) ∧ (0 ≤ r ↔ x ∈ L)) ∧ Below w.heap.size w w' := by
  obtain ⟨A, cap, rfl, hc, hr⟩ := hv
  obtain ⟨P, hP⟩ : ∃ P, P = (x ∈ L) := ⟨_, rfl⟩
  have HP : Hid (P ↔ x ∈ L) := hide (by rw [hP])
  rw [← hP]
  clear hP
  go_enter Try.func114, Try.ntmps114
  go_wp2
  go_loopg [8] (L.length) (fun gg iv wr => ∃ k : Nat, k + gg = L.length ∧ iv = .int .i64 k ∧ Below w.heap.size w wr ∧ Hid (∀ (i : Nat) (y : Int), i < k → L[i]? = some y → y ≠ x))
  case atStart => exact ⟨0, by omega, rfl, Below.refl _ _, hide fun i y h => by omega⟩
  case round =>
    obtain ⟨k, hk, rfl, hbe, HV⟩ := hrel
    by_cases hlt : k < L.length
    · obtain ⟨b, off, rfl, hb, hcell⟩ := hr (by omega)
      obtain ⟨y, hy⟩ := get_some hlt
      have c1 := intAt (hcell.keep (w' := wr) fun p hp => hbe.cell (by omega)) hy
      have HC := hide hy
      clear hy
      by_cases hyx : x = y
      · have e1 : (x == y) = true := by simp [hyx]
        have HY : Hid P := hide (HP.out.2 (by rw [hyx]; exact List.mem_of_getElem? HC.out))
        clear hyx
        go_wp2
        go_ret
        exact ⟨⟨_, rfl, ⟨fun _ => HY.out, fun _ => by omega⟩⟩, hbe⟩
      · have e1 : (x == y) = false := by simp [hyx]
        have HY : Hid (y ≠ x) := hide fun h => hyx h.symm
        clear hyx
        go_wp2
        go_roundg (gk - 1)
        case measure => omega
        case rel =>
          refine ⟨k + 1, by omega, by go_num, hbe, hide fun i z hi hz => ?_⟩
          rcases Nat.lt_succ_iff_lt_or_eq.1 hi with h | h
          · exact HV.out i z h hz
          · subst h; rw [HC.out] at hz; cases hz; exact HY.out
    · have HN : Hid (¬ P) := hide fun h => by
        obtain ⟨i, hi⟩ := List.mem_iff_getElem?.1 (HP.out.1 h)
        exact HV.out i x (by have := get_lt hi; omega) hi rfl
      go_wp2
      go_ret
      exact ⟨⟨_, rfl, ⟨fun h => absurd h (by decide), fun h => absurd h HN.out⟩⟩, hbe⟩
theorem contains_any (v : Value) (L : List Int) (x : Int) (w : World) (hv : SlR ic 1 w w.heap.size v L) (hn : L.length ≤ 1048576) :
    Calls Try.prog 98 #[v, .int .i64 x] w fun e w' => e = .returned (.bool (tb (x ∈ L))) ∧ Below w.heap.size w w' := by
  go_enter Try.func98, Try.ntmps98
  go_wp2_with fail
  refine (index1_any v L x w hv hn).mono ?_
  rintro e w1 ⟨⟨r, rfl, hr⟩, hb1⟩
  by_cases h : 0 ≤ r
  · have e0 : decide (0 ≤ r) = true := decide_eq_true h
    have HR := hide (hr.1 h)
    clear hr h
    go_wp2
    go_ret
    exact ⟨ret_bool (tb_yes HR.out).symm, hb1⟩
  · have e0 : decide (0 ≤ r) = false := decide_eq_false h
    have HR := hide fun h' => h (hr.2 h')
    clear hr h
    go_wp2
    go_ret
    exact ⟨ret_bool (tb_no HR.out).symm, hb1⟩
/-- What mixedHops' closure captures, all of it below block 'base'. -/
structure CapM (base b1 b2 b3 : Nat) (v : Value) (g : Gr) (n k : Int) (w : World) : Prop where
  val : ∃ A cap, v = .agg #[.int .i64 g.n, .slice A g.ls.length cap] ∧ Blk w b1 25 #[.int .i64 g.n, .slice A g.ls.length cap]
  fr : Blk w b2 3 #[.int .i64 n]
  lk : Blk w b3 3 #[.int .i64 k]
  gr : GrR w base v g
  lo : b1 < base ∧ b2 < base ∧ b3 < base
  sz : base ≤ w.heap.size
theorem CapM.below {base b1 b2 b3 : Nat} {v : Value} {g : Gr} {n k : Int} {w w' : World} (h : CapM base b1 b2 b3 v g n k w) (hb : Below base w w') : CapM base b1 b2 b3 v g n k w' := by
  obtain ⟨⟨A, cap, hv, h1⟩, h2, h3, h4, h5, h6⟩ := h
  exact ⟨⟨A, cap, hv, h1.below hb h5.1⟩, h2.below hb h5.2.1, h3.below hb h5.2.2, h4.below hb, h5, Nat.le_trans h6 hb.size⟩
theorem CapM.up {base b1 b2 b3 : Nat} {v : Value} {g : Gr} {n k : Int} {w w' : World} (h : CapM base b1 b2 b3 v g n k w) (hb : Below w.heap.size w w') : CapM base b1 b2 b3 v g n k w' := h.below (hb.mono h.sz)
/-- What the other closures capture: the box of a slice that reads as the Bools B. -/
structure CapB (T : Nat) (B : List Bool) (w : World) : Prop where
  val : ∃ A cap, Blk w T 77 #[.slice A B.length cap] ∧ SlR blc 1 w w.heap.size (.slice A B.length cap) B
theorem CapB.up {T : Nat} {B : List Bool} {w w' : World} (h : CapB T B w) (hb : Below w.heap.size w w') : CapB T B w' := by
  obtain ⟨A, cap, h1, h2⟩ := h.val
  exact ⟨A, cap, h1.up hb, h2.up hb⟩
theorem cloMix_any (base b1 b2 b3 : Nat) (v : Value) (g : Gr) (n k m : Int) (w : World) (hC : CapM base b1 b2 b3 v g n k w) (hg : g.ls.length ≤ 1048576) :
    Calls Try.prog 100 #[.int .i64 m, .pointer (some ⟨b1, 0, none⟩), .pointer (some ⟨b2, 0, none⟩), .pointer (some ⟨b3, 0, none⟩)] w fun e w' => e = .returned (.bool (tb (lnk g n m = k))) ∧ Below w.heap.size w w' := by
  obtain ⟨⟨A, cap, rfl, h1⟩, h2, h3, h4, h5, h6⟩ := hC
  have c0 := h1.cell 0
  have c1 := h1.cell 1
  have c2 := h2.cell 0
  have c3 := h3.cell 0
  obtain ⟨q, hq⟩ : ∃ q, q = lnk g n m := ⟨_, rfl⟩
  have hcl := fun y => linkOf_any _ g n m (wext w y) ((h4.more h6).up (wext_below w y)) hg
  rw [← hq] at hcl ⊢
  have HCL := hide hcl
  clear h1 h2 h3 h4 h5 h6 hcl hq
  go_enter Try.func100, Try.ntmps100
  go_upto_region 1 with fail
  have e0 := fun y => wext_cell w y c0
  have e1 := fun y => wext_cell w y c1
  have e2 := fun y => wext_cell w y c2
  have e3 := fun y => wext_cell w y c3
  clear c0 c1 c2 c3
  refine region_q (by kernel_rfl) (by kernel_rfl) ?_
  repeat (go_big_quiet_step ((first | (go_at_call 84; with_reducible exact q_call (HCL.out _)))))
  refine wpQuiet_nil ?_
  intro wx hbx
  clear e0 e1 e2 e3
  go_wp2
  go_ret
  exact ⟨ret_bool (beq_tb Iff.rfl), hbx⟩
theorem cloCan_any (T : Nat) (B : List Bool) (m : Int) (w : World) (hC : CapB T B w) (hm : 0 ≤ m ∧ m < B.length) :
    Calls Try.prog 69 #[.int .i64 m, .pointer (some ⟨T, 0, none⟩)] w fun e w' => e = .returned (.bool (tb (bAt B m))) ∧ Below w.heap.size w w' := by
  obtain ⟨hm0, hm1⟩ := hm
  obtain ⟨k, hmk⟩ := Int.eq_ofNat_of_zero_le hm0
  obtain ⟨A, cap, h1, A', cap', he, h2, h3⟩ := hC.val
  cases he
  obtain ⟨b0, off, rfl, hb, hrow⟩ := h3 (by omega)
  obtain ⟨b, hk⟩ := get_some (l := B) (i := k) (by omega)
  have c0 := h1.cell 0
  have c1 := boolAt hrow hk
  have HR : Hid ((b) = tb (bAt B m)) := hide (by
    subst hmk
    first
    | exact (bAt_get hk).symm
    | (rw [← not_tb, bAt_get hk]))
  subst hmk
  clear hC h1 h3 hrow hk
  go_enter Try.func69, Try.ntmps69
  go_wp2
  go_ret
  exact ⟨ret_bool HR.out, Below.refl _ _⟩
theorem cloCan2_any (T : Nat) (B : List Bool) (m : Int) (w : World) (hC : CapB T B w) (hm : 0 ≤ m ∧ m < B.length) :
    Calls Try.prog 70 #[.int .i64 m, .pointer (some ⟨T, 0, none⟩)] w fun e w' => e = .returned (.bool (tb (bAt B m))) ∧ Below w.heap.size w w' := by
  obtain ⟨hm0, hm1⟩ := hm
  obtain ⟨k, hmk⟩ := Int.eq_ofNat_of_zero_le hm0
  obtain ⟨A, cap, h1, A', cap', he, h2, h3⟩ := hC.val
  cases he
  obtain ⟨b0, off, rfl, hb, hrow⟩ := h3 (by omega)
  obtain ⟨b, hk⟩ := get_some (l := B) (i := k) (by omega)
  have c0 := h1.cell 0
  have c1 := boolAt hrow hk
  have HR : Hid ((b) = tb (bAt B m)) := hide (by
    subst hmk
    first
    | exact (bAt_get hk).symm
    | (rw [← not_tb, bAt_get hk]))
  subst hmk
  clear hC h1 h3 hrow hk
  go_enter Try.func70, Try.ntmps70
  go_wp2
  go_ret
  exact ⟨ret_bool HR.out, Below.refl _ _⟩
theorem cloArr_any (T : Nat) (B : List Bool) (m : Int) (w : World) (hC : CapB T B w) (hm : 0 ≤ m ∧ m < B.length) :
    Calls Try.prog 71 #[.int .i64 m, .pointer (some ⟨T, 0, none⟩)] w fun e w' => e = .returned (.bool (tb (¬ bAt B m))) ∧ Below w.heap.size w w' := by
  obtain ⟨hm0, hm1⟩ := hm
  obtain ⟨k, hmk⟩ := Int.eq_ofNat_of_zero_le hm0
  obtain ⟨A, cap, h1, A', cap', he, h2, h3⟩ := hC.val
  cases he
  obtain ⟨b0, off, rfl, hb, hrow⟩ := h3 (by omega)
  obtain ⟨b, hk⟩ := get_some (l := B) (i := k) (by omega)
  have c0 := h1.cell 0
  have c1 := boolAt hrow hk
  have HR : Hid ((!b) = tb (¬ bAt B m)) := hide (by
    subst hmk
    first
    | exact (bAt_get hk).symm
    | (rw [← not_tb, bAt_get hk]))
  subst hmk
  clear hC h1 h3 hrow hk
  go_enter Try.func71, Try.ntmps71
  go_wp2
  go_ret
  exact ⟨ret_bool HR.out, Below.refl _ _⟩
theorem cloArr2_any (T : Nat) (B : List Bool) (m : Int) (w : World) (hC : CapB T B w) (hm : 0 ≤ m ∧ m < B.length) :
    Calls Try.prog 72 #[.int .i64 m, .pointer (some ⟨T, 0, none⟩)] w fun e w' => e = .returned (.bool (tb (bAt B m))) ∧ Below w.heap.size w w' := by
  obtain ⟨hm0, hm1⟩ := hm
  obtain ⟨k, hmk⟩ := Int.eq_ofNat_of_zero_le hm0
  obtain ⟨A, cap, h1, A', cap', he, h2, h3⟩ := hC.val
  cases he
  obtain ⟨b0, off, rfl, hb, hrow⟩ := h3 (by omega)
  obtain ⟨b, hk⟩ := get_some (l := B) (i := k) (by omega)
  have c0 := h1.cell 0
  have c1 := boolAt hrow hk
  have HR : Hid ((b) = tb (bAt B m)) := hide (by
    subst hmk
    first
    | exact (bAt_get hk).symm
    | (rw [← not_tb, bAt_get hk]))
  subst hmk
  clear hC h1 h3 hrow hk
  go_enter Try.func72, Try.ntmps72
  go_wp2
  go_ret
  exact ⟨ret_bool HR.out, Below.refl _ _⟩
/-- r is the first place in L of a number with p, or -1. -/
def Ixf (p : Int → Prop) (L : List Int) (r : Int) : Prop :=
  (r = -1 ∧ ∀ m, m ∈ L → ¬ p m) ∨ ∃ k : Nat, r = k ∧ k < L.length ∧ (∃ m, L[k]? = some m ∧ p m) ∧ ∀ (i : Nat) (m : Int), i < k → L[i]? = some m → ¬ p m
theorem Ixf.ex {p : Int → Prop} {L : List Int} {r : Int} (h : Ixf p L r) : 0 ≤ r ↔ ∃ m, m ∈ L ∧ p m := by
  rcases h with ⟨rfl, h⟩ | ⟨k, rfl, h1, ⟨m, h2, h3⟩, _⟩
  · exact ⟨fun h' => absurd h' (by decide), fun ⟨m, h1, h2⟩ => absurd h2 (h m h1)⟩
  · exact ⟨fun _ => ⟨m, List.mem_of_getElem? h2, h3⟩, fun _ => by omega⟩
set_option maxHeartbeats 800000 in
theorem idxMix_any (base b1 b2 b3:Nat) (vg:Value) (g:Gr) (n k:Int) (hg:g.ls.length ≤ 1048576) (v : Value) (L : List Int) (w : World) (hC : CapM base b1 b2 b3 vg g n k w) (hv : SlR ic 1 w w.heap.size v L) (hn : L.length ≤ 1048576) (hin : ∀ m : Int, m ∈ L → True) :
    Calls Try.prog 102 #[v, .func (.func 100) #[] #[.pointer (some ⟨b1, 0, none⟩), .pointer (some ⟨b2, 0, none⟩), .pointer (some ⟨b3, 0, none⟩)]] w
      fun e w' => (∃ r : Int, e = .returned (.int .i64 r) ∧ Ixf (fun m => lnk g n m = k) L r) ∧ Below w.heap.size w w' := by
  obtain ⟨A, cap, rfl, hc, hr⟩ := hv
  obtain ⟨p, hp⟩ : ∃ p : Int → Prop, p = fun m => lnk g n m = k := ⟨_, rfl⟩
  have HCN : Hid (∀ (m : Int) (_ : True) (W : World) (_ : CapM base b1 b2 b3 vg g n k W), Calls Try.prog 100 #[.int .i64 m, .pointer (some ⟨b1, 0, none⟩), .pointer (some ⟨b2, 0, none⟩), .pointer (some ⟨b3, 0, none⟩)] W fun e w' => e = .returned (.bool (tb (p m))) ∧ Below W.heap.size W w') := hide (by
    subst hp
    intro m hm W hW
    exact cloMix_any base b1 b2 b3 vg g n k m W hW hg)
  rw [← hp]
  have HC := hide hC
  have HIN := hide hin
  clear hC hin hp
  go_enter Try.func102, Try.ntmps102
  go_wp2
  go_loopg [8] (L.length) (fun gg iv wr => ∃ k : Nat, k + gg = L.length ∧ iv = .int .i64 k ∧ Below w.heap.size w wr ∧ Hid (∀ (i : Nat) (m : Int), i < k → L[i]? = some m → ¬ p m))
  case atStart => exact ⟨0, by omega, rfl, Below.refl _ _, hide fun i m h => by omega⟩
  case round =>
    obtain ⟨k, hk, rfl, hbe, HV⟩ := hrel
    by_cases hlt : k < L.length
    · obtain ⟨b0, off, rfl, hb, hcell⟩ := hr (by omega)
      obtain ⟨x, hx⟩ := get_some hlt
      have g1 := intAt (hcell.keep (w' := wr) fun p hp => hbe.cell (by omega)) hx
      have HX := hide hx
      clear hx
      go_wp2_with fail
      refine (HCN.out x (HIN.out x (List.mem_of_getElem? HX.out)) wr (HC.out.up hbe)).mono ?_
      rintro e w1 ⟨rfl, hb1⟩
      have hbe1 := hbe.trans (hb1.mono hbe.size)
      clear g1 hb1
      by_cases hpx : p x
      · rw [tb_yes hpx]
        have HPX := hide hpx
        clear hpx
        go_wp2
        go_ret
        exact ⟨⟨_, rfl, .inr ⟨k, rfl, hlt, ⟨x, HX.out, HPX.out⟩, HV.out⟩⟩, hbe1⟩
      · rw [tb_no hpx]
        have HPX := hide hpx
        clear hpx
        go_wp2
        go_roundg (gk - 1)
        case measure => omega
        case rel =>
          refine ⟨k + 1, by omega, by go_num, hbe1, hide fun i m hi hm => ?_⟩
          rcases Nat.lt_succ_iff_lt_or_eq.1 hi with h | h
          · exact HV.out i m h hm
          · subst h; rw [HX.out] at hm; cases hm; exact HPX.out
    · have HN : Hid (∀ m, m ∈ L → ¬ p m) := hide fun m hm => by
        obtain ⟨i, hi⟩ := List.mem_iff_getElem?.1 hm
        exact HV.out i m (by have := get_lt hi; omega) hi
      go_wp2
      go_ret
      exact ⟨⟨_, rfl, .inl ⟨rfl, HN.out⟩⟩, hbe⟩
set_option maxHeartbeats 800000 in
theorem idxCan_any (T:Nat) (B:List Bool) (v : Value) (L : List Int) (w : World) (hC : CapB T B w) (hv : SlR ic 1 w w.heap.size v L) (hn : L.length ≤ 1048576) (hin : ∀ m : Int, m ∈ L → 0 ≤ m ∧ m < B.length) :
    Calls Try.prog 102 #[v, .func (.func 69) #[] #[.pointer (some ⟨T, 0, none⟩)]] w
      fun e w' => (∃ r : Int, e = .returned (.int .i64 r) ∧ Ixf (fun m => bAt B m) L r) ∧ Below w.heap.size w w' := by
  obtain ⟨A, cap, rfl, hc, hr⟩ := hv
  obtain ⟨p, hp⟩ : ∃ p : Int → Prop, p = fun m => bAt B m := ⟨_, rfl⟩
  have HCN : Hid (∀ (m : Int) (_ : 0 ≤ m ∧ m < B.length) (W : World) (_ : CapB T B W), Calls Try.prog 69 #[.int .i64 m, .pointer (some ⟨T, 0, none⟩)] W fun e w' => e = .returned (.bool (tb (p m))) ∧ Below W.heap.size W w') := hide (by
    subst hp
    intro m hm W hW
    exact cloCan_any T B m W hW hm)
  rw [← hp]
  have HC := hide hC
  have HIN := hide hin
  clear hC hin hp
  go_enter Try.func102, Try.ntmps102
  go_wp2
  go_loopg [8] (L.length) (fun gg iv wr => ∃ k : Nat, k + gg = L.length ∧ iv = .int .i64 k ∧ Below w.heap.size w wr ∧ Hid (∀ (i : Nat) (m : Int), i < k → L[i]? = some m → ¬ p m))
  case atStart => exact ⟨0, by omega, rfl, Below.refl _ _, hide fun i m h => by omega⟩
  case round =>
    obtain ⟨k, hk, rfl, hbe, HV⟩ := hrel
    by_cases hlt : k < L.length
    · obtain ⟨b0, off, rfl, hb, hcell⟩ := hr (by omega)
      obtain ⟨x, hx⟩ := get_some hlt
      have g1 := intAt (hcell.keep (w' := wr) fun p hp => hbe.cell (by omega)) hx
      have HX := hide hx
      clear hx
      go_wp2_with fail
      refine (HCN.out x (HIN.out x (List.mem_of_getElem? HX.out)) wr (HC.out.up hbe)).mono ?_
      rintro e w1 ⟨rfl, hb1⟩
      have hbe1 := hbe.trans (hb1.mono hbe.size)
      clear g1 hb1
      by_cases hpx : p x
      · rw [tb_yes hpx]
        have HPX := hide hpx
        clear hpx
        go_wp2
        go_ret
        exact ⟨⟨_, rfl, .inr ⟨k, rfl, hlt, ⟨x, HX.out, HPX.out⟩, HV.out⟩⟩, hbe1⟩
      · rw [tb_no hpx]
        have HPX := hide hpx
        clear hpx
        go_wp2
        go_roundg (gk - 1)
        case measure => omega
        case rel =>
          refine ⟨k + 1, by omega, by go_num, hbe1, hide fun i m hi hm => ?_⟩
          rcases Nat.lt_succ_iff_lt_or_eq.1 hi with h | h
          · exact HV.out i m h hm
          · subst h; rw [HX.out] at hm; cases hm; exact HPX.out
    · have HN : Hid (∀ m, m ∈ L → ¬ p m) := hide fun m hm => by
        obtain ⟨i, hi⟩ := List.mem_iff_getElem?.1 hm
        exact HV.out i m (by have := get_lt hi; omega) hi
      go_wp2
      go_ret
      exact ⟨⟨_, rfl, .inl ⟨rfl, HN.out⟩⟩, hbe⟩
set_option maxHeartbeats 800000 in
theorem idxArr_any (T:Nat) (B:List Bool) (v : Value) (L : List Int) (w : World) (hC : CapB T B w) (hv : SlR ic 1 w w.heap.size v L) (hn : L.length ≤ 1048576) (hin : ∀ m : Int, m ∈ L → 0 ≤ m ∧ m < B.length) :
    Calls Try.prog 102 #[v, .func (.func 71) #[] #[.pointer (some ⟨T, 0, none⟩)]] w
      fun e w' => (∃ r : Int, e = .returned (.int .i64 r) ∧ Ixf (fun m => ¬ bAt B m) L r) ∧ Below w.heap.size w w' := by
  obtain ⟨A, cap, rfl, hc, hr⟩ := hv
  obtain ⟨p, hp⟩ : ∃ p : Int → Prop, p = fun m => ¬ bAt B m := ⟨_, rfl⟩
  have HCN : Hid (∀ (m : Int) (_ : 0 ≤ m ∧ m < B.length) (W : World) (_ : CapB T B W), Calls Try.prog 71 #[.int .i64 m, .pointer (some ⟨T, 0, none⟩)] W fun e w' => e = .returned (.bool (tb (p m))) ∧ Below W.heap.size W w') := hide (by
    subst hp
    intro m hm W hW
    exact cloArr_any T B m W hW hm)
  rw [← hp]
  have HC := hide hC
  have HIN := hide hin
  clear hC hin hp
  go_enter Try.func102, Try.ntmps102
  go_wp2
  go_loopg [8] (L.length) (fun gg iv wr => ∃ k : Nat, k + gg = L.length ∧ iv = .int .i64 k ∧ Below w.heap.size w wr ∧ Hid (∀ (i : Nat) (m : Int), i < k → L[i]? = some m → ¬ p m))
  case atStart => exact ⟨0, by omega, rfl, Below.refl _ _, hide fun i m h => by omega⟩
  case round =>
    obtain ⟨k, hk, rfl, hbe, HV⟩ := hrel
    by_cases hlt : k < L.length
    · obtain ⟨b0, off, rfl, hb, hcell⟩ := hr (by omega)
      obtain ⟨x, hx⟩ := get_some hlt
      have g1 := intAt (hcell.keep (w' := wr) fun p hp => hbe.cell (by omega)) hx
      have HX := hide hx
      clear hx
      go_wp2_with fail
      refine (HCN.out x (HIN.out x (List.mem_of_getElem? HX.out)) wr (HC.out.up hbe)).mono ?_
      rintro e w1 ⟨rfl, hb1⟩
      have hbe1 := hbe.trans (hb1.mono hbe.size)
      clear g1 hb1
      by_cases hpx : p x
      · rw [tb_yes hpx]
        have HPX := hide hpx
        clear hpx
        go_wp2
        go_ret
        exact ⟨⟨_, rfl, .inr ⟨k, rfl, hlt, ⟨x, HX.out, HPX.out⟩, HV.out⟩⟩, hbe1⟩
      · rw [tb_no hpx]
        have HPX := hide hpx
        clear hpx
        go_wp2
        go_roundg (gk - 1)
        case measure => omega
        case rel =>
          refine ⟨k + 1, by omega, by go_num, hbe1, hide fun i m hi hm => ?_⟩
          rcases Nat.lt_succ_iff_lt_or_eq.1 hi with h | h
          · exact HV.out i m h hm
          · subst h; rw [HX.out] at hm; cases hm; exact HPX.out
    · have HN : Hid (∀ m, m ∈ L → ¬ p m) := hide fun m hm => by
        obtain ⟨i, hi⟩ := List.mem_iff_getElem?.1 hm
        exact HV.out i m (by have := get_lt hi; omega) hi
      go_wp2
      go_ret
      exact ⟨⟨_, rfl, .inl ⟨rfl, HN.out⟩⟩, hbe⟩
theorem hasCan_any (T : Nat) (B : List Bool) (v : Value) (L : List Int) (w : World) (hC : CapB T B w) (hv : SlR ic 1 w w.heap.size v L) (hn : L.length ≤ 1048576) (hin : ∀ m : Int, m ∈ L → 0 ≤ m ∧ m < B.length) :
    Calls Try.prog 68 #[v, .func (.func 69) #[] #[.pointer (some ⟨T, 0, none⟩)]] w
      fun e w' => e = .returned (.bool (tb (∃ m, m ∈ L ∧ bAt B m))) ∧ Below w.heap.size w w' := by
  have hcon := idxCan_any T B v L w hC hv hn hin
  clear hC hv hn hin
  go_enter Try.func68, Try.ntmps68
  go_wp2_with fail
  refine hcon.mono ?_
  rintro e w1 ⟨⟨r, rfl, hr⟩, hb1⟩
  by_cases h : 0 ≤ r
  · have e0 : decide (0 ≤ r) = true := decide_eq_true h
    have HR := hide (hr.ex.1 h)
    clear hr hcon h
    go_wp2
    go_ret
    exact ⟨ret_bool (tb_yes HR.out).symm, hb1⟩
  · have e0 : decide (0 ≤ r) = false := decide_eq_false h
    have HR := hide fun h' => h (hr.ex.2 h')
    clear hr hcon h
    go_wp2
    go_ret
    exact ⟨ret_bool (tb_no HR.out).symm, hb1⟩
theorem hasArr_any (T : Nat) (B : List Bool) (v : Value) (L : List Int) (w : World) (hC : CapB T B w) (hv : SlR ic 1 w w.heap.size v L) (hn : L.length ≤ 1048576) (hin : ∀ m : Int, m ∈ L → 0 ≤ m ∧ m < B.length) :
    Calls Try.prog 68 #[v, .func (.func 71) #[] #[.pointer (some ⟨T, 0, none⟩)]] w
      fun e w' => e = .returned (.bool (tb (∃ m, m ∈ L ∧ ¬ bAt B m))) ∧ Below w.heap.size w w' := by
  have hcon := idxArr_any T B v L w hC hv hn hin
  clear hC hv hn hin
  go_enter Try.func68, Try.ntmps68
  go_wp2_with fail
  refine hcon.mono ?_
  rintro e w1 ⟨⟨r, rfl, hr⟩, hb1⟩
  by_cases h : 0 ≤ r
  · have e0 : decide (0 ≤ r) = true := decide_eq_true h
    have HR := hide (hr.ex.1 h)
    clear hr hcon h
    go_wp2
    go_ret
    exact ⟨ret_bool (tb_yes HR.out).symm, hb1⟩
  · have e0 : decide (0 ≤ r) = false := decide_eq_false h
    have HR := hide fun h' => h (hr.ex.2 h')
    clear hr hcon h
    go_wp2
    go_ret
    exact ⟨ret_bool (tb_no HR.out).symm, hb1⟩


/-! ### DeleteFunc -/
/-- The list M when the numbers of L below place j have been looked at, i of them kept. -/
structure DelI (q : Int → Bool) (L : List Int) (i j : Nat) (M : List Int) : Prop where
  len : M.length = L.length
  lt : i < j ∧ j ≤ L.length
  hd : M.take i = (L.take j).filter q
  tl : M.drop j = L.drop j
section
variable {q : Int → Bool} {L M : List Int} {i j : Nat}
theorem delI_start {r : Nat} {x : Int} (h1 : L[r]? = some x) (h2 : q x = false) (h3 : ∀ (i : Nat) (m : Int), i < r → L[i]? = some m → q m = true) : DelI q L r (r + 1) L := by
  have hr := get_lt h1
  refine ⟨rfl, ⟨by omega, by omega⟩, ?_, rfl⟩
  rw [List.take_add_one, h1, List.filter_append]
  have h4 : (L.take r).filter q = L.take r := List.filter_eq_self.2 fun m hm => by
    obtain ⟨i, hi⟩ := List.mem_iff_getElem?.1 hm
    rw [List.getElem?_take] at hi
    split at hi
    · exact h3 i m (by assumption) hi
    · cases hi
  rw [h4]
  simp [h2]
theorem DelI.at (h : DelI q L i j M) {x : Int} (hx : L[j]? = some x) : M[j]? = some x := by
  have h1 := congrArg (fun l : List Int => l[0]?) h.tl
  simp only [List.getElem?_drop, Nat.add_zero] at h1
  rw [h1]; exact hx
theorem DelI.skip (h : DelI q L i j M) {x : Int} (hx : L[j]? = some x) (hq : q x = false) : DelI q L i (j + 1) M := by
  have hj := get_lt hx
  refine ⟨h.len, ⟨by have := h.lt; omega, by omega⟩, ?_, ?_⟩
  · rw [List.take_add_one, hx, List.filter_append, h.hd]
    simp [hq]
  · rw [← List.drop_drop, ← List.drop_drop, h.tl]
theorem DelI.keep (h : DelI q L i j M) {x : Int} (hx : L[j]? = some x) (hq : q x = true) : DelI q L (i + 1) (j + 1) (M.set i x) := by
  have hj := get_lt hx
  have hlt := h.lt
  have hi : i < M.length := by rw [h.len]; omega
  refine ⟨by rw [List.length_set]; exact h.len, ⟨by omega, by omega⟩, ?_, ?_⟩
  · rw [List.take_add_one, List.getElem?_set_self hi, List.take_add_one, hx, List.filter_append, ← h.hd]
    have h1 : (M.set i x).take i = M.take i := by
      apply List.ext_getElem?
      intro k
      rw [List.getElem?_take, List.getElem?_take]
      split
      · rw [List.getElem?_set_ne (by omega)]
      · rfl
    rw [h1]
    simp [hq]
  · rw [← List.drop_drop, ← List.drop_drop]
    have h1 : (M.set i x).drop j = M.drop j := by
      apply List.ext_getElem?
      intro k
      rw [List.getElem?_drop, List.getElem?_drop, List.getElem?_set_ne (by omega)]
    rw [h1, h.tl]
theorem DelI.stop (h : DelI q L i j M) (hj : L.length ≤ j) : M.take i = L.filter q := by
  rw [h.hd, List.take_of_length_le hj]
end
set_option maxRecDepth 100000 in
set_option maxHeartbeats 1600000 in
theorem delFn_any (base b1 b2 b3 : Nat) (vg : Value) (g : Gr) (n k : Int) (v : Value) (L : List Int) (w : World) (hC : CapM base b1 b2 b3 vg g n k w) (hg : g.ls.length ≤ 1048576) (hO : Own ic 3 1 w base v L) (hL : L.length ≤ 1048576) :
    Calls Try.prog 99 #[v, .func (.func 100) #[] #[.pointer (some ⟨b1, 0, none⟩), .pointer (some ⟨b2, 0, none⟩), .pointer (some ⟨b3, 0, none⟩)]] w
      fun e w' => ∃ v', e = .returned v' ∧ Own ic 3 1 w' base v' (L.filter fun m => tb (¬ lnk g n m = k)) ∧ Below base w w' := by
  have hcon := idxMix_any base b1 b2 b3 vg g n k hg v L w hC (hO.slr ic_len) hL (fun _ _ => trivial)
  obtain ⟨p, hp⟩ : ∃ p : Int → Prop, p = fun m => lnk g n m = k := ⟨_, rfl⟩
  have HCN : Hid (∀ (m : Int) (W : World), CapM base b1 b2 b3 vg g n k W → Calls Try.prog 100 #[.int .i64 m, .pointer (some ⟨b1, 0, none⟩), .pointer (some ⟨b2, 0, none⟩), .pointer (some ⟨b3, 0, none⟩)] W fun e w' => e = .returned (.bool (tb (p m))) ∧ Below W.heap.size W w') := hide (by
    subst hp
    intro m W hW
    exact cloMix_any base b1 b2 b3 vg g n k m W hW hg)
  rw [← hp] at hcon
  obtain ⟨F, hF⟩ : ∃ F, F = L.filter fun m => tb (¬ lnk g n m = k) := ⟨_, rfl⟩
  have HF : Hid (F = L.filter fun m => tb (¬ p m)) := hide (by rw [hF, hp])
  rw [← hF]
  have HC := hide hC
  have HO := hide hO
  obtain ⟨A, cap, rfl, hcap, hmx⟩ := hO.lit
  have hbs := hC.sz
  clear hp hF hC hO
  go_enter Try.func99, Try.ntmps99
  go_wp2_with fail
  refine hcon.mono ?_
  rintro e w1 ⟨⟨r, rfl, hr⟩, hb1⟩
  have hb01 := hb1.mono hbs
  have HO1 := hide (HO.out.below hb1)
  have HC1 := hide (HC.out.up hb1)
  clear hcon HO HC hb1
  rcases hr with ⟨rfl, hr⟩ | ⟨i0, rfl, hi0, ⟨m0, hm0, hp0⟩, hr⟩
  · have HFL : Hid (F = L) := hide (by rw [HF.out, List.filter_eq_self.2 fun m hm => tb_yes (hr m hm)])
    clear hr
    go_wp2
    go_ret
    exact ⟨_, rfl, by rw [HFL.out]; exact HO1.out, hb01⟩
  have HD : Hid (DelI (fun m => tb (¬ p m)) L i0 (i0 + 1) L) := hide (delI_start hm0 (tb_no fun h => h hp0) fun i m hi hm => tb_yes (hr i m hi hm))
  obtain ⟨g0, c0, he, hg0, hg1⟩ := HO1.out.form (by omega)
  obtain ⟨rfl, rfl⟩ : A = some ⟨g0, 0, none⟩ ∧ cap = c0 := by
    injection he with h1 h2 h3
    exact ⟨h1, h3⟩
  have hB01 := hb01
  obtain ⟨N, hN⟩ : ∃ N, N = L.length := ⟨_, rfl⟩
  have HN := hide hN
  rw [← hN] at HO1 hcap hL hi0
  rw [← hN]
  clear hr hm0 hp0 he hg1 hN
  go_wp2
  go_loopg [5, 6] (N - (i0 + 1)) (fun gg iv jv wr => ∃ (i j : Nat) (M : List Int), j + gg = N ∧ iv = .int .i64 i ∧ jv = .int .i64 j ∧ i < j ∧ j ≤ N ∧ Below base w wr ∧ Hid (DelI (fun m => tb (¬ p m)) L i j M) ∧ Hid (CapM base b1 b2 b3 vg g n k wr) ∧ Hid (Own ic 3 1 wr base (.slice (some ⟨g0, 0, none⟩) N cap) M))
  case atStart => exact ⟨i0, i0 + 1, L, by omega, rfl, by go_num, by omega, by omega, hB01, HD, HC1, HO1⟩
  case round =>
    clear HD HC1 HO1
    obtain ⟨i, j, M, hj, rfl, rfl, hij, hjN, hbe, HD, HC, HO⟩ := hrel
    have hMl : M.length = N := by rw [HD.out.len, HN.out]
    by_cases hlt : j < N
    · obtain ⟨x, hx⟩ := get_some (l := L) (i := j) (by rw [← HN.out]; exact hlt)
      have c1 := own_int HO.out (HD.out.at hx)
      have HX := hide hx
      clear hx
      go_wp2_with fail
      refine (HCN.out x wr HC.out).mono ?_
      rintro e w2 ⟨rfl, hb2⟩
      have hbs2 : base ≤ wr.heap.size := HC.out.sz
      have hbe2 := hbe.trans (hb2.mono hbs2)
      have HC2 := hide (HC.out.up hb2)
      have HO2 := hide (HO.out.below hb2)
      clear c1 HC HO hb2
      by_cases hpx : p x
      · rw [tb_yes hpx]
        have HD2 := hide (HD.out.skip HX.out (show tb (¬ p x) = false from tb_no fun h => h hpx))
        clear hpx
        go_wp2
        go_roundg (gk - 1)
        case measure => omega
        case rel => exact ⟨i, j + 1, M, by omega, rfl, by go_num, by omega, by omega, hbe2, HD2, HC2, HO2⟩
      · rw [tb_no hpx]
        have HD2 := hide (HD.out.keep HX.out (show tb (¬ p x) = true from tb_yes hpx))
        obtain ⟨y, hy⟩ := get_some (l := M) (i := i) (by omega)
        obtain ⟨⟨u0, q0⟩, z0⟩ := HO2.out.slot (k := i) (j := 0) hMl.symm (by omega) (by decide)
        rw [Nat.mul_one, Nat.add_zero] at q0 z0
        have s1 := HO2.out.set ic_len (k := i) (j := 0) (x := y) (y := x) (u := .int .i64 x) hMl.symm hy (by decide) rfl
        rw [Nat.mul_one, Nat.add_zero] at s1
        have hbe3 := hbe2.setCell (p := ⟨g0, i, none⟩) (by show base ≤ g0; exact hg0) (.int .i64 x)
        have HO3 := hide s1
        have HC3 := hide (HC2.out.below ((Below.refl base w2).setCell (p := ⟨g0, i, none⟩) (by show base ≤ g0; exact hg0) (.int .i64 x)))
        clear hpx hy s1 HC2 HO2 hbe2
        go_wp2
        go_roundg (gk - 1)
        case measure => omega
        case rel => exact ⟨i + 1, j + 1, M.set i x, by omega, by go_num, by go_num, by omega, by omega, hbe3, HD2, HC3, HO3⟩
    · have hjN' : j = N := by omega
      have hMF : M.take i = F := by rw [HF.out]; exact HD.out.stop (by rw [← HN.out]; omega)
      obtain ⟨i1, hi, hz0, hz1, hz2⟩ := info_parts Try.infoI
      have hT := HO.out.cut ic_len hMl.symm (k := i) (by omega)
      have hOM := HO.out
      unfold Own at hOM
      rw [hMl] at hOM
      have hclear := fun ty c => run_clearK (P := Try.prog) wr 28 3 ty (.int .i64 0) Try.underlying28 ⟨i1, hi, hz0⟩ g0 i (N - i) c
        (fun j hj => own_slots hOM _ (by simp [Value.cells] at hj; omega)) (fun j _ => World.ownsRow.frozenAt hOM _) (by simp [Value.cells, Value.oneCell']) (by simp [Value.cells])
      have hbeh := hT.behind (by rw [List.length_take]; omega) i (Builtin.zeroCells (Value.int .i64 0).cells (N - i)).toList (by rw [List.length_take]; omega)
      rw [hMF] at hbeh
      have HBH := hide hbeh
      have hbf := hbe.grown hbeh.2 (Nat.le_trans hbs hbe.size) fun q hq => by injection hq; omega
      have q1 : ¬ (cap = i) := by omega
      have q2 : i ≤ N := by omega
      have q3 : i ≤ cap := by omega
      clear hbeh hMF hT hOM hi hz0 hz1 hz2 HD HC HO hMl hbe
      go_wp2_with (refine wpList_clear_r _ rfl (.tmp 38) _ rfl _ rfl (hclear _ _) ?_)
      go_ret
      exact ⟨_, rfl, HBH.out.1, hbf⟩

/-! ### mixedHops -/
theorem lnk_eq {g : Gr} (hg : GV g) {k : Int} (hk : Ix g k) {n m : Int} : lnk g n m = k ↔ Jn (lkOf g k) n m := by
  have hl := lk_at hk
  have hlt := (hg.lv (List.mem_of_getElem? hl)).2.2.1
  have hk0 := hk.1
  constructor
  · intro h
    rcases lnk_cases g n m with ⟨h1, _⟩ | ⟨j, l, h1, h2, h3⟩
    · omega
    · have hj : k.toNat = j := by omega
      rw [hj, h2] at hl
      cases hl
      exact (isL_iff hlt).1 h3
  · intro h
    rw [lnk_jn hg hl h]
    omega
theorem mixR_new {g : Gr} {k y n : Int} {ch : List Int} (h : n ∈ ch) : hopL (Wo g k.toNat) y n = mixR g k y ch n := (mix_new h).symm
theorem mixR_old {g : Gr} (hg : GV g) {k y n : Int} (hk : Ix g k) {ch : List Int} (h : n ∉ ch) : ((hopL g y n).filter fun m => tb (¬ lnk g n m = k)) = mixR g k y ch n := by
  unfold mixR
  rw [mix_old h]
  apply List.filter_congr
  intro m _
  exact tb_iff (not_congr (lnk_eq hg hk))
theorem mixR_len {g : Gr} (hg : GV g) (k y : Int) (ch : List Int) (n : Int) : (mixR g k y ch n).length ≤ 8 := by
  by_cases h : n ∈ ch
  · rw [← mixR_new h]
    exact hopL_len (wo_gv hg _) _ _
  · unfold mixR
    rw [mix_old h]
    exact Nat.le_trans (List.length_filter_le _ _) (hopL_len hg _ _)
def mixTo (R : Int → List Int) (k : Nat) : List (List Int) := (List.range k).map fun i : Nat => R i
theorem mixTo_succ (R : Int → List Int) (k : Nat) : mixTo R (k + 1) = mixTo R k ++ [R k] := by simp [mixTo, List.range_succ]
theorem mixTo_zero (R : Int → List Int) : mixTo R 0 = [] := by simp [mixTo]
theorem mixTo_len (R : Int → List Int) (k : Nat) : (mixTo R k).length = k := by simp [mixTo]
theorem mixTo_get (R : Int → List Int) {k i : Nat} (h : i < k) : (mixTo R k)[i]? = some (R i) := by
  unfold mixTo
  rw [List.getElem?_map, List.getElem?_range h]
  rfl
/-- The state of mixedHops: the lists M in v, the graph G without the link in x and in the box Y. -/
structure MxI (wb W : World) (Y : Nat) (cY : Array Value) (x : Value) (G : Gr) (v : Value) (us : List Sv) (M : List (List Int)) : Prop where
  bw : Below wb.heap.size wb W
  m : Mat W wb.heap.size v us M
  y : Blk W Y 25 cY
  x : OwnG W wb.heap.size x G
section
variable {wb W W' : World} {Y : Nat} {cY : Array Value} {x v : Value} {G : Gr} {us : List Sv} {M : List (List Int)}
theorem MxI.below (h : MxI wb W Y cY x G v us M) (hb : Below W.heap.size W W') : MxI wb W' Y cY x G v us M :=
  ⟨h.bw.trans (hb.mono h.bw.size), h.m.below hb, h.y.up hb, h.x.below hb⟩
theorem MxI.app (h : MxI wb W Y cY x G v us M) {v' : Value} {A : Option Addr} {n cap : Nat} {L : List Int} (hL : Own ic 3 1 W wb.heap.size (.slice A n cap) L) (hO : Own svc 28 1 W' wb.heap.size v' (us ++ [⟨A, n, cap⟩])) (hg : W.grownBy W' v.ownBlock) :
    MxI wb W' Y cY x G v' (us ++ [⟨A, n, cap⟩]) (M ++ [L]) := by
  refine ⟨h.bw.grown hg h.bw.size fun q hq => (World.ownsRow.lt h.m.o q hq).1, h.m.grown hL hO hg, h.y.grown hg fun he => own_blk_ne h.m.o h.y (by decide) he.symm, ?_⟩
  obtain ⟨v2, rfl, h2⟩ := h.x
  exact ⟨v2, rfl, own_grown h2 hg (own_types h2 h.m.o (by decide))⟩
end
set_option maxRecDepth 100000 in
set_option maxHeartbeats 1600000 in
theorem mixedHops_any (v u : Value) (g : Gr) (k y : Int) (ch : List Int) (w : World) (hv : GrR w w.heap.size v g) (hu : SlR ic 1 w w.heap.size u ch) (hc : ch.length ≤ 1048576) (hK : Ok g y k) :
    Calls Try.prog 66 #[v, .int .i64 k, .int .i64 y, u] w
      fun e w' => ∃ v', e = .returned v' ∧ (∃ us, Mat w' w.heap.size v' us (mixTo (mixR g k y ch) g.n.toNat)) ∧ Below w.heap.size w w' := by
  have hvv := hv
  obtain ⟨A, cap, rfl, _, _⟩ := hv.form
  have hlen := hK.1.len
  obtain ⟨hn1, hn2⟩ := hK.1.n
  obtain ⟨b, hb⟩ : ∃ b, b = w.heap.size := ⟨_, rfl⟩
  obtain ⟨wb, hwb⟩ : ∃ wb, wb = (w.alloc (Obj.cells #[.int .i64 g.n, .slice A g.ls.length cap] 25)).alloc (Obj.cells #[.int .i64 k] 3) := ⟨_, rfl⟩
  have hbw : Below w.heap.size w wb := by rw [hwb]; exact below2 _ _ _
  have HB : Hid (Blk wb b 25 #[.int .i64 g.n, .slice A g.ls.length cap]) := hide (by rw [hwb, hb]; exact (Blk.new _ _ _).alloc _)
  have HKB : Hid (Blk wb (b + 1) 3 #[.int .i64 k]) := hide (by rw [hwb, hb]; exact Blk.new1 _ _ _ _)
  have HV := hide (hvv.up hbw)
  have HU := hide (hu.up hbw)
  have h1b := below1 wb (Obj.cells #[] 28)
  have hwbs : wb.heap.size = b + 1 + 1 := by rw [hwb, hb]; simp
  have hM0 : Mat (wb.alloc (.cells #[] 28)) wb.heap.size (.slice (some ⟨b + 1 + 1, 0, none⟩) 0 0) [] [] := by rw [← hwbs]; exact Mat.nil wb (Nat.le_refl _)
  obtain ⟨w0, hw0⟩ : ∃ w0, w0 = wb.alloc (.cells #[] 28) := ⟨_, rfl⟩
  rw [← hw0] at hM0 h1b
  clear hwbs
  have HM0 := hide hM0
  have HK := hide hK
  have c0 := (HB.out.up h1b).cell 0
  have c1 := (HB.out.up h1b).cell 1
  have c2 := (HKB.out.up h1b).cell 0
  have hmf : ∀ (fn : Fn) (first cap : Array Value) (w : World), (Instr.makeFunc fn first cap).run Try.prog w = .ok (.func fn first cap) w := fun _ _ _ _ => rfl
  clear hv hvv hu hK hM0
  obtain ⟨N, hN⟩ : ∃ N, N = g.n.toNat := ⟨_, rfl⟩
  rw [← hN]
  obtain ⟨R, hR⟩ : ∃ R, R = mixR g k y ch := ⟨_, rfl⟩
  have HR := hide hR
  rw [← hR]
  clear hR
  have hNa : (N : Int) ≤ g.n := by omega
  have hNb : g.n ≤ (N : Int) := by omega
  clear hN
  go_enter Try.func66, Try.ntmps66
  go_upto_region 2 with fail
  rw [← hwb, ← hw0, ← hb]
  clear hwb hw0 hb
  go_wp2_with fail
  refine (without_any _ g k _ (HV.out.up h1b) (by omega)).mono ?_
  rintro e w1 ⟨v1, rfl, hO1, hb1⟩
  rw [woX_yes ⟨HK.out.1, HK.out.2.1⟩] at hO1
  rw [tb_yes ⟨HK.out.1, HK.out.2.1⟩]
  obtain ⟨G, hG⟩ : ∃ G, G = Wo g k.toNat := ⟨_, rfl⟩
  have HGV : Hid (GV G) := hide (by rw [hG]; exact wo_gv HK.out.1 _)
  have HGE := hide hG
  rw [← hG] at hO1
  obtain ⟨A7, c7, rfl⟩ := hO1.lit
  have h12 := below1 w1 (Obj.cells #[.int .i64 G.n, .slice A7 G.ls.length c7] 25)
  have hb12 := hb1.trans (h12.mono hb1.size)
  have HM2 : Hid (MxI wb (w1.alloc (Obj.cells #[.int .i64 G.n, .slice A7 G.ls.length c7] 25)) w1.heap.size #[.int .i64 G.n, .slice A7 G.ls.length c7] (.agg #[.int .i64 G.n, .slice A7 G.ls.length c7]) G (.slice (some ⟨b + 1 + 1, 0, none⟩) 0 0) [] []) :=
    hide ⟨h1b.trans (hb12.mono h1b.size), HM0.out.below hb12, Blk.new _ _ _, (hO1.below h12).low h1b.size⟩
  obtain ⟨Y, hY⟩ : ∃ Y, Y = w1.heap.size := ⟨_, rfl⟩
  obtain ⟨w2, hw2⟩ : ∃ w2, w2 = w1.alloc (Obj.cells #[.int .i64 G.n, .slice A7 G.ls.length c7] 25) := ⟨_, rfl⟩
  rw [← hw2, ← hY] at HM2
  clear hO1 hG hb1 h12 hb12 h1b HM0 c0 c1 c2
  go_upto_region 3 with fail
  rw [← hw2, ← hY]
  clear hw2 hY
  have c0 := (HB.out.up HM2.out.bw).cell 0
  go_wp2
  clear c0
  go_loopg [9, 22] (N) (fun gg rv iv wr => ∃ (j : Nat) (A5 : Option Addr) (c5 : Nat) (us : List Sv), j + gg = N ∧ rv = .slice A5 j c5 ∧ iv = .int .i64 j ∧ Hid (MxI wb wr Y #[.int .i64 G.n, .slice A7 G.ls.length c7] (.agg #[.int .i64 G.n, .slice A7 G.ls.length c7]) G (.slice A5 j c5) us (mixTo R j)))
  case atStart => exact ⟨0, _, _, [], by omega, rfl, rfl, hide (by rw [mixTo_zero]; exact HM2.out)⟩
  case round =>
    clear HM2
    obtain ⟨j, A5, c5, us, hj, rfl, rfl, HM⟩ := hrel
    by_cases hlt : (j : Int) < g.n
    · obtain ⟨Z, hZ⟩ : ∃ Z, Z = wr.heap.size := ⟨_, rfl⟩
      obtain ⟨wd, hwd⟩ : ∃ wd, wd = wr.alloc (Obj.cells #[.int .i64 j] 3) := ⟨_, rfl⟩
      have hd : Below wr.heap.size wr wd := by rw [hwd]; exact below1 _ _
      have HZ : Hid (Blk wd Z 3 #[.int .i64 j]) := hide (by rw [hwd, hZ]; exact Blk.new _ _ _)
      have HMd := hide (HM.out.below hd)
      have HND : Hid (Nd g (j : Int)) := hide ⟨by omega, hlt⟩
      have hul : us.length = j := by rw [HM.out.m.len, mixTo_len]
      obtain ⟨L, hL⟩ : ∃ L, L = R (j : Int) := ⟨_, rfl⟩
      have HSU : Hid (mixTo R (j + 1) = mixTo R j ++ [L]) := hide (by rw [mixTo_succ, hL])
      have HL : Hid (L = mixR g k y ch (j : Int)) := hide (by rw [hL, HR.out])
      have hLl : L.length ≤ 8 := by rw [HL.out]; exact mixR_len HK.out.1 _ _ _ _
      clear hL HM
      go_upto_region 6 with fail
      rw [← hwd, ← hZ]
      clear hwd hZ hd
      have c2 := HZ.out.cell 0
      go_wp2_with fail
      refine (contains_any _ ch (j : Int) _ (HU.out.up HMd.out.bw) hc).mono ?_
      rintro e w2 ⟨rfl, hb2⟩
      have HM2 := hide (HMd.out.below hb2)
      have HZ2 := hide (HZ.out.up hb2)
      clear HMd HZ hb2 c2
      by_cases hin : (j : Int) ∈ ch
      · rw [tb_yes hin]
        have HLN : Hid (hopL G y (j : Int) = L) := hide (by rw [HGE.out, HL.out]; exact mixR_new hin)
        clear hin
        have c0 := HM2.out.y.cell 0
        have c1 := HM2.out.y.cell 1
        have c2 := HZ2.out.cell 0
        have HND2 : Hid (Nd G (j : Int) ∧ Nd G y) := hide (by rw [HGE.out]; exact ⟨HND.out, HK.out.2.2⟩)
        go_wp2_with fail
        refine (nextHops_any _ G (j : Int) y _ HM2.out.x.grr HGV.out HND2.out.1 HND2.out.2).mono ?_
        rintro e w3 ⟨v3, rfl, hO3, hb3⟩
        rw [HLN.out] at hO3
        obtain ⟨A3, k3, rfl, _, _⟩ := hO3.lit
        have HM3 := hide (HM2.out.below hb3)
        have HL3 := hide (hO3.low HM2.out.bw.size)
        clear c0 c1 c2 hO3 hb3 HM2 HZ2
        go_upto_region 9 with (at_builtin; refine wpList_appN (by rfl) infV (.tmp 28) (.tmp 33) (by rfl) _ _ (by rfl) (by rfl) wb us [⟨A3, L.length, k3⟩] (us ++ [⟨A3, L.length, k3⟩]) (j + 1) rfl (by simp [hul]) (HM3.out.m.below (below1 _ _)).o (HM3.out.bw.trans ((below1 _ _).mono HM3.out.bw.size)) (slr_sv _ _ _ _) (by omega) ?_; intro Ay capy w4 hO4 hg4 hb4)
        have HM4 := hide ((HM3.out.below (below1 _ _)).app (HL3.out.below (below1 _ _)) hO4 hg4)
        rw [← HSU.out] at HM4
        clear hO4 hg4 hb4 HM3 HL3
        go_wp2
        go_roundg (gk - 1)
        case measure => omega
        case rel => exact ⟨j + 1, _, _, _, by omega, rfl, by go_num, HM4⟩
      · rw [tb_no hin]
        have HLN : Hid (((hopL g y (j : Int)).filter fun m => tb (¬ lnk g (j : Int) m = k)) = L) := hide (by rw [HL.out]; exact mixR_old HK.out.1 HK.out.2.1 hin)
        clear hin
        have c0 := (HB.out.up HM2.out.bw).cell 0
        have c1 := (HB.out.up HM2.out.bw).cell 1
        have c2 := HZ2.out.cell 0
        have HV2 := hide (HV.out.up HM2.out.bw)
        go_wp2_with fail
        refine (nextHops_any _ g (j : Int) y _ HV2.out HK.out.1 HND.out HK.out.2.2).mono ?_
        rintro e w3 ⟨v3, rfl, hO3, hb3⟩
        have hC3 : CapM w2.heap.size b Z (b + 1) (.agg #[.int .i64 g.n, .slice A g.ls.length cap]) g (j : Int) k w2 :=
          ⟨⟨A, cap, rfl, HB.out.up HM2.out.bw⟩, HZ2.out, HKB.out.up HM2.out.bw, HV2.out, ⟨(HB.out.up HM2.out.bw).lt, HZ2.out.lt, (HKB.out.up HM2.out.bw).lt⟩, Nat.le_refl _⟩
        have HC3 := hide (hC3.below hb3)
        have HO3 := hide hO3
        clear c0 c1 c2 hO3 hC3
        go_wp2_with fail
        refine (delFn_any w2.heap.size b Z (b + 1) _ g (j : Int) k v3 (hopL g y (j : Int)) w3 HC3.out (by omega) HO3.out (by have := hopL_len HK.out.1 y (j : Int); omega)).mono ?_
        rintro e w4 ⟨v4, rfl, hO4, hb4⟩
        rw [HLN.out] at hO4
        obtain ⟨A3, k3, rfl, _, _⟩ := hO4.lit
        have HM3 := hide (HM2.out.below (hb3.trans hb4))
        have HL3 := hide (hO4.low HM2.out.bw.size)
        clear hO4 hb3 hb4 HM2 HZ2 HC3 HO3 HV2
        go_upto_region 9 with (at_builtin; refine wpList_appN (by rfl) infV (.tmp 35) (.tmp 42) (by rfl) _ _ (by rfl) (by rfl) wb us [⟨A3, L.length, k3⟩] (us ++ [⟨A3, L.length, k3⟩]) (j + 1) rfl (by simp [hul]) (HM3.out.m.below (below1 _ _)).o (HM3.out.bw.trans ((below1 _ _).mono HM3.out.bw.size)) (slr_sv _ _ _ _) (by omega) ?_; intro Ay capy w4 hO4 hg4 hb4)
        have HM4 := hide ((HM3.out.below (below1 _ _)).app (HL3.out.below (below1 _ _)) hO4 hg4)
        rw [← HSU.out] at HM4
        clear hO4 hg4 hb4 HM3 HL3
        go_wp2
        go_roundg (gk - 1)
        case measure => omega
        case rel => exact ⟨j + 1, _, _, _, by omega, rfl, by go_num, HM4⟩
    · have hjN : j = N := by omega
      subst hjN
      go_wp2
      go_ret
      exact ⟨_, rfl, ⟨us, HM.out.m.low hbw.size⟩, hbw.trans (HM.out.bw.mono hbw.size)⟩

/-! ### MixedHops -/
set_option maxRecDepth 100000 in
set_option maxHeartbeats 1600000 in
theorem mixedHopsX_any (v u : Value) (g : Gr) (k y x : Int) (ch : List Int) (w : World) (hv : GrR w w.heap.size v g) (hm : g.ls.length ≤ 1048576) (hu : SlR ic 1 w w.heap.size u ch) (hc : ch.length ≤ 1048576) :
    Calls Try.prog 30 #[v, .int .i64 k, .int .i64 y, u, .int .i64 x] w
      fun e w' => ∃ v', e = .returned v' ∧ Own ic 3 1 w' w.heap.size v' (mixX g k y ch x) ∧ Below w.heap.size w w' := by
  have hvv := hv
  obtain ⟨A, cap, rfl, _, _⟩ := hv.form
  obtain ⟨wb, hwb⟩ : ∃ wb, wb = w.alloc (Obj.cells #[.int .i64 g.n, .slice A g.ls.length cap] 25) := ⟨_, rfl⟩
  have hbw : Below w.heap.size w wb := by rw [hwb]; exact below1 _ _
  have HB : Hid (Blk wb w.heap.size 25 #[.int .i64 g.n, .slice A g.ls.length cap]) := hide (by rw [hwb]; exact Blk.new _ _ _)
  have HV := hide (hvv.up hbw)
  have HU := hide (hu.up hbw)
  have c0 := HB.out.cell 0
  have c1 := HB.out.cell 1
  clear hvv hv hu
  obtain ⟨R, hR⟩ : ∃ R, R = mixX g k y ch x := ⟨_, rfl⟩
  have HR := hide hR
  rw [← hR]
  clear hR
  go_enter Try.func30, Try.ntmps30
  go_wp2_with fail
  rw [← hwb]
  clear hwb
  refine (hasNode_any _ g _ _ HV.out hm).mono ?_
  rintro e w1 ⟨rfl, hb1⟩
  have HB1 := hide (HB.out.up hb1)
  have HV1 := hide (HV.out.up hb1)
  have HU1 := hide (HU.out.up hb1)
  have hb01 := hbw.trans (hb1.mono hbw.size)
  clear c0 c1 HB HV HU hb1 hbw
  have c0 := HB1.out.cell 0
  have c1 := HB1.out.cell 1
  by_cases hA : GV g ∧ Nd g y
  · rw [tb_yes hA]
    have HA := hide hA
    clear hA
    go_wp2_with fail
    refine (hasNode_any _ g _ _ HV1.out hm).mono ?_
    rintro e w2 ⟨rfl, hb2⟩
    have HB2 := hide (HB1.out.up hb2)
    have HV2 := hide (HV1.out.up hb2)
    have HU2 := hide (HU1.out.up hb2)
    have hb02 := hb01.trans (hb2.mono hb01.size)
    clear c0 c1 HB1 HV1 HU1 hb2 hb01
    have c0 := HB2.out.cell 0
    have c1 := HB2.out.cell 1
    by_cases hA : GV g ∧ Nd g x
    · rw [tb_yes hA]
      have HA2 := hide hA
      clear hA
      go_wp2_with fail
      refine (hasLink_any _ g _ _ HV2.out hm).mono ?_
      rintro e w3 ⟨rfl, hb3⟩
      have HB3 := hide (HB2.out.up hb3)
      have HV3 := hide (HV2.out.up hb3)
      have HU3 := hide (HU2.out.up hb3)
      have hb03 := hb02.trans (hb3.mono hb02.size)
      clear c0 c1 HB2 HV2 HU2 hb3 hb02
      have c0 := HB3.out.cell 0
      have c1 := HB3.out.cell 1
      by_cases hA : GV g ∧ Ix g k
      · rw [tb_yes hA]
        have HK : Hid (Ok g y k) := hide ⟨hA.1, hA.2, HA.out.2⟩
        have HRE : Hid (R = mixR g k y ch x) := hide (by rw [HR.out, mixX, okL_yes ⟨⟨hA.1, hA.2, HA2.out.2⟩, HA.out.2⟩])
        clear hA
        obtain ⟨nx, rfl⟩ := Int.eq_ofNat_of_zero_le HA2.out.2.1
        have hxn : (nx : Int) < g.n := HA2.out.2.2
        go_wp2_with fail
        refine (mixedHops_any _ u g k y ch _ HV3.out HU3.out hc HK.out).mono ?_
        rintro e w4 ⟨v4, rfl, ⟨us, hM⟩, hb4⟩
        obtain ⟨N, hN⟩ : ∃ N, N = g.n.toNat := ⟨_, rfl⟩
        rw [← hN] at hM
        have hget := mixTo_get (mixR g k y ch) (show nx < N by omega)
        have hul : us.length = N := by rw [hM.len, mixTo_len]
        obtain ⟨o, cp, rfl, _, _⟩ := hM.o.form (by omega)
        obtain ⟨A5, c5, hcell, hO⟩ := hM.at hget
        rw [← HRE.out] at hcell hO
        have hb04 := hb03.trans (hb4.mono hb03.size)
        have HO := hide (hO.low hb03.size)
        have hxN : nx < N := by omega
        rw [hul]
        clear hM hget hul hO hN hb4
        go_wp2
        go_ret
        exact ⟨_, rfl, HO.out, hb04⟩
      · rw [tb_no hA]
        have HK : Hid (R = []) := hide (by rw [HR.out, mixX, okL_no fun h => hA (⟨h.1.1, h.1.2.1⟩)])
        clear hA
        go_wp2
        go_ret
        exact ⟨_, rfl, by rw [HK.out]; exact Own.nil _ _ _ _ _, hb03⟩
    · rw [tb_no hA]
      have HK : Hid (R = []) := hide (by rw [HR.out, mixX, okL_no fun h => hA (⟨h.1.1, h.1.2.2⟩)])
      clear hA
      go_wp2
      go_ret
      exact ⟨_, rfl, by rw [HK.out]; exact Own.nil _ _ _ _ _, hb02⟩
  · rw [tb_no hA]
    have HK : Hid (R = []) := hide (by rw [HR.out, mixX, okL_no fun h => hA (⟨h.1.1, h.2⟩)])
    clear hA
    go_wp2
    go_ret
    exact ⟨_, rfl, by rw [HK.out]; exact Own.nil _ _ _ _ _, hb01⟩


set_option maxRecDepth 100000 in
set_option maxHeartbeats 1600000 in
theorem byCan_any (T : Nat) (B : List Bool) (v : Value) (g : Gr) (w : World) (hC : CapB T B w) (hv : GrR w w.heap.size v g) (hg : GV g) (hB : B.length = g.n.toNat) :
    Calls Try.prog 57 #[v, .func (.func 70) #[] #[.pointer (some ⟨T, 0, none⟩)]] w
      fun e w' => ∃ v', e = .returned v' ∧ Own ic 3 1 w' w.heap.size v' (selTo (bAt B) g.n.toNat) ∧ Below w.heap.size w w' := by
  obtain ⟨hn1, hn2⟩ := hg.n
  have HCN := hide (fun (n : Int) (hn : Nd g n) W (hW : CapB T B W) => cloCan2_any T B n W hW (by unfold Nd at hn; omega))
  obtain ⟨P, hP⟩ : ∃ P, P = bAt B := ⟨_, rfl⟩
  rw [← hP] at HCN
  rw [← hP]
  obtain ⟨A, cap, rfl, _, _⟩ := hv.form
  obtain ⟨wb, hwb⟩ : ∃ wb, wb = w.alloc (Obj.cells #[.int .i64 g.n, .slice A g.ls.length cap] 25) := ⟨_, rfl⟩
  have hbw : Below w.heap.size w wb := by rw [hwb]; exact below1 _ _
  have HB : Hid (Blk wb w.heap.size 25 #[.int .i64 g.n, .slice A g.ls.length cap]) := hide (by rw [hwb]; exact Blk.new _ _ _)
  have hwbs : wb.heap.size = w.heap.size + 1 := by rw [hwb]; simp
  have HC := hide (hC.up hbw)
  have c0 := HB.out.cell 0
  have c1 := HB.out.cell 1
  obtain ⟨R, hR⟩ : ∃ R, R = selTo P g.n.toNat := ⟨_, rfl⟩
  have HR := hide hR
  rw [← hR]
  clear hP hC hg hv hB hR
  go_enter Try.func57, Try.ntmps57
  go_upto_region 1 with fail
  rw [← hwb]
  clear hwb
  have HB1 := hide (HB.out.up (below1 wb (Obj.cells #[] 3)))
  clear c0 c1
  have c0 := HB1.out.cell 0
  go_wp2_with fail
  clear c0 HB1
  go_loopg [5, 10] (g.n.toNat) (fun gg rv iv wr => ∃ (j : Nat) (A5 : Option Addr) (c5 : Nat), j + gg = g.n.toNat ∧ rv = .slice A5 (selTo P j).length c5 ∧ iv = .int .i64 j ∧ Below wb.heap.size wb wr ∧ Hid (Own ic 3 1 wr wb.heap.size (.slice A5 (selTo P j).length c5) (selTo P j)))
  case atStart => exact ⟨0, _, _, by omega, rfl, rfl, below1 _ _, hide (by rw [← hwbs]; exact ownE wb _ (Nat.le_refl _))⟩
  case round =>
    obtain ⟨j, A5, c5, hj, rfl, rfl, hbe, HO⟩ := hrel
    have HC0 := hide (HC.out.up hbe)
    have hsz := hbe.size
    obtain ⟨L, hL⟩ : ∃ L, L = selTo P j := ⟨_, rfl⟩
    have HL := hide hL
    rw [← hL] at HO
    rw [← hL]
    clear hL
    by_cases hlt : (j : Int) < g.n
    · go_wp2_with fail
      refine (HCN.out (j : Int) ⟨by omega, hlt⟩ _ HC0.out).mono ?_
      rintro e w3 ⟨rfl, hb3⟩
      have HO3 := hide (HO.out.below hb3)
      have hbe3 := hbe.trans (hb3.mono hbe.size)
      clear HC0 HO hb3
      by_cases hQ : P (j : Int)
      · rw [tb_yes hQ]
        have HN : Hid (selTo P (j + 1) = L ++ [(j : Int)]) := hide (by rw [selTo_yes hQ, HL.out])
        have HNl : Hid (L.length + 1 ≤ 8) := hide (by
          have h1 := selTo_le P (j + 1) (by omega)
          rw [HN.out] at h1
          simpa using h1)
        clear hQ
        go_upto_region 7 with (at_builtin; refine wpList_appN (by rfl) infI (.tmp 16) (.tmp 18) (by rfl) _ _ (by rfl) (by rfl) wb L [(j : Int)] (selTo P (j + 1)) (selTo P (j + 1)).length HN.out rfl (HO3.out.below (below1 _ _)) (hbe3.trans ((below1 _ _).mono hbe3.size)) (slr_lit _ _) (by rw [HN.out]; have := HNl.out; simp; omega) ?_; intro Ay capy w4 hO4 hg4 hb4)
        have HO4 := hide hO4
        clear hO4 hg4 HO3
        go_wp2
        go_roundg (gk - 1)
        case measure => omega
        case rel => exact ⟨j + 1, _, _, by omega, rfl, by go_num, hb4, HO4⟩
      · rw [tb_no hQ]
        have HN : Hid (selTo P (j + 1) = L) := hide (by rw [selTo_no hQ, HL.out])
        clear hQ
        go_wp2
        go_roundg (gk - 1)
        case measure => omega
        case rel => exact ⟨j + 1, _, c5, by omega, by rw [HN.out], by go_num, hbe3, by rw [HN.out]; exact HO3⟩
    · have hjn : g.n.toNat = j := by omega
      have hR : R = L := by rw [HR.out, HL.out, hjn]
      have HF := hide (HO.out.low (base' := w.heap.size) (by omega))
      have hbf := hbw.trans (hbe.mono hbw.size)
      rw [← hR] at HF
      rw [← hR]
      clear hR hjn
      go_wp2
      go_ret
      exact ⟨_, rfl, HF.out, hbf⟩
set_option maxRecDepth 100000 in
set_option maxHeartbeats 1600000 in
theorem byArr_any (T : Nat) (B : List Bool) (v : Value) (g : Gr) (w : World) (hC : CapB T B w) (hv : GrR w w.heap.size v g) (hg : GV g) (hB : B.length = g.n.toNat) :
    Calls Try.prog 57 #[v, .func (.func 72) #[] #[.pointer (some ⟨T, 0, none⟩)]] w
      fun e w' => ∃ v', e = .returned v' ∧ Own ic 3 1 w' w.heap.size v' (selTo (bAt B) g.n.toNat) ∧ Below w.heap.size w w' := by
  obtain ⟨hn1, hn2⟩ := hg.n
  have HCN := hide (fun (n : Int) (hn : Nd g n) W (hW : CapB T B W) => cloArr2_any T B n W hW (by unfold Nd at hn; omega))
  obtain ⟨P, hP⟩ : ∃ P, P = bAt B := ⟨_, rfl⟩
  rw [← hP] at HCN
  rw [← hP]
  obtain ⟨A, cap, rfl, _, _⟩ := hv.form
  obtain ⟨wb, hwb⟩ : ∃ wb, wb = w.alloc (Obj.cells #[.int .i64 g.n, .slice A g.ls.length cap] 25) := ⟨_, rfl⟩
  have hbw : Below w.heap.size w wb := by rw [hwb]; exact below1 _ _
  have HB : Hid (Blk wb w.heap.size 25 #[.int .i64 g.n, .slice A g.ls.length cap]) := hide (by rw [hwb]; exact Blk.new _ _ _)
  have hwbs : wb.heap.size = w.heap.size + 1 := by rw [hwb]; simp
  have HC := hide (hC.up hbw)
  have c0 := HB.out.cell 0
  have c1 := HB.out.cell 1
  obtain ⟨R, hR⟩ : ∃ R, R = selTo P g.n.toNat := ⟨_, rfl⟩
  have HR := hide hR
  rw [← hR]
  clear hP hC hg hv hB hR
  go_enter Try.func57, Try.ntmps57
  go_upto_region 1 with fail
  rw [← hwb]
  clear hwb
  have HB1 := hide (HB.out.up (below1 wb (Obj.cells #[] 3)))
  clear c0 c1
  have c0 := HB1.out.cell 0
  go_wp2_with fail
  clear c0 HB1
  go_loopg [5, 10] (g.n.toNat) (fun gg rv iv wr => ∃ (j : Nat) (A5 : Option Addr) (c5 : Nat), j + gg = g.n.toNat ∧ rv = .slice A5 (selTo P j).length c5 ∧ iv = .int .i64 j ∧ Below wb.heap.size wb wr ∧ Hid (Own ic 3 1 wr wb.heap.size (.slice A5 (selTo P j).length c5) (selTo P j)))
  case atStart => exact ⟨0, _, _, by omega, rfl, rfl, below1 _ _, hide (by rw [← hwbs]; exact ownE wb _ (Nat.le_refl _))⟩
  case round =>
    obtain ⟨j, A5, c5, hj, rfl, rfl, hbe, HO⟩ := hrel
    have HC0 := hide (HC.out.up hbe)
    have hsz := hbe.size
    obtain ⟨L, hL⟩ : ∃ L, L = selTo P j := ⟨_, rfl⟩
    have HL := hide hL
    rw [← hL] at HO
    rw [← hL]
    clear hL
    by_cases hlt : (j : Int) < g.n
    · go_wp2_with fail
      refine (HCN.out (j : Int) ⟨by omega, hlt⟩ _ HC0.out).mono ?_
      rintro e w3 ⟨rfl, hb3⟩
      have HO3 := hide (HO.out.below hb3)
      have hbe3 := hbe.trans (hb3.mono hbe.size)
      clear HC0 HO hb3
      by_cases hQ : P (j : Int)
      · rw [tb_yes hQ]
        have HN : Hid (selTo P (j + 1) = L ++ [(j : Int)]) := hide (by rw [selTo_yes hQ, HL.out])
        have HNl : Hid (L.length + 1 ≤ 8) := hide (by
          have h1 := selTo_le P (j + 1) (by omega)
          rw [HN.out] at h1
          simpa using h1)
        clear hQ
        go_upto_region 7 with (at_builtin; refine wpList_appN (by rfl) infI (.tmp 16) (.tmp 18) (by rfl) _ _ (by rfl) (by rfl) wb L [(j : Int)] (selTo P (j + 1)) (selTo P (j + 1)).length HN.out rfl (HO3.out.below (below1 _ _)) (hbe3.trans ((below1 _ _).mono hbe3.size)) (slr_lit _ _) (by rw [HN.out]; have := HNl.out; simp; omega) ?_; intro Ay capy w4 hO4 hg4 hb4)
        have HO4 := hide hO4
        clear hO4 hg4 HO3
        go_wp2
        go_roundg (gk - 1)
        case measure => omega
        case rel => exact ⟨j + 1, _, _, by omega, rfl, by go_num, hb4, HO4⟩
      · rw [tb_no hQ]
        have HN : Hid (selTo P (j + 1) = L) := hide (by rw [selTo_no hQ, HL.out])
        clear hQ
        go_wp2
        go_roundg (gk - 1)
        case measure => omega
        case rel => exact ⟨j + 1, _, c5, by omega, by rw [HN.out], by go_num, hbe3, by rw [HN.out]; exact HO3⟩
    · have hjn : g.n.toNat = j := by omega
      have hR : R = L := by rw [HR.out, HL.out, hjn]
      have HF := hide (HO.out.low (base' := w.heap.size) (by omega))
      have hbf := hbw.trans (hbe.mono hbw.size)
      rw [← hR] at HF
      rw [← hR]
      clear hR hjn
      go_wp2
      go_ret
      exact ⟨_, rfl, HF.out, hbf⟩
theorem slr_bool (W : World) (x : Bool) : SlR blc 1 (W.alloc (Obj.cells #[.bool x] 4)) (W.heap.size + 1) (.slice (some ⟨W.heap.size, 0, none⟩) 1 1) [x] :=
  slr_one (Blk.new W 4 #[.bool x]) rfl (by omega)
/-- The state of a loop: the lists M, the Bools B in the box T, the graph in its box. -/
structure LpI (w W : World) (T : Nat) (B : List Bool) (hv : Value) (us : List Sv) (M : List (List Int)) (cG : Array Value) (vg : Value) (g : Gr) : Prop where
  bw : Below w.heap.size w W
  b : Blk W w.heap.size 25 cG
  gr : GrR W w.heap.size vg g
  m : Mat W w.heap.size hv us M
  lo : w.heap.size ≤ T
  t : ∃ A cap, Blk W T 77 #[.slice A B.length cap] ∧ Own blc 4 1 W w.heap.size (.slice A B.length cap) B
section
variable {w W W' : World} {T : Nat} {B B' : List Bool} {hv vg : Value} {us : List Sv} {M : List (List Int)} {cG : Array Value} {g : Gr}
theorem LpI.below (h : LpI w W T B hv us M cG vg g) (hb : Below W.heap.size W W') : LpI w W' T B hv us M cG vg g := by
  obtain ⟨A, cap, h1, h2⟩ := h.t
  exact ⟨h.bw.trans (hb.mono h.bw.size), h.b.up hb, h.gr.below (hb.mono h.bw.size), h.m.below hb, h.lo, A, cap, h1.up hb, h2.below hb⟩
theorem Mat.far {base T i : Nat} {t : TypeId} {cs : Array Value} (h : Mat W base hv us M) (hB : Blk W T t cs) (h1 : 28 ≠ t) (h2 : 3 ≠ t) (u : Value) : Mat (W.setCell ⟨T, i, none⟩ u) base hv us M :=
  ⟨own_far' h.o (own_blk_ne h.o hB h1) u, h.len, fun i s L hs hL => own_far' (h.el i s L hs hL) (own_blk_ne (h.el i s L hs hL) hB h2) u⟩
theorem LpI.put (h : LpI w W T B hv us M cG vg g) {A : Option Addr} {n c : Nat} (hO : Own blc 4 1 W w.heap.size (.slice A n c) B') (hn : n = B'.length) : LpI w (W.setCell ⟨T, 0, none⟩ (.slice A n c)) T B' hv us M cG vg g := by
  subst hn
  obtain ⟨A0, cap, h1, h2⟩ := h.t
  have hb : Below w.heap.size W (W.setCell ⟨T, 0, none⟩ (.slice A B'.length c)) := (Below.refl _ _).setCell h.lo _
  exact ⟨h.bw.trans hb, h.b.far (fun he => by
    have hx := h.b
    have he' : w.heap.size = T := he
    rw [he'] at hx
    unfold Blk at hx h1
    rw [h1] at hx
    injection hx with hx
    injection hx with _ hx
    exact absurd hx (by decide)) _, h.gr.below hb, h.m.far h1 (by decide) (by decide) _, h.lo, A, c, h1.put 0 _, own_far' hO (own_blk_ne hO h1 (by decide)) _⟩
theorem LpI.cap (h : LpI w W T B hv us M cG vg g) : CapB T B W := by
  obtain ⟨A, cap, h1, h2⟩ := h.t
  exact ⟨A, cap, h1, h2.slr blc_len⟩
end
theorem can_start (R : Int → List Int) {N : Nat} : ∀ x, bAt (List.replicate N true) x ↔ (0 ≤ x ∧ x < (N : Int)) ∧ Stp R 0 x := fun _ => ⟨fun h => ⟨bAt_yes.1 h, trivial⟩, fun h => bAt_yes.2 h.1⟩
theorem can_next {R : Int → List Int} {N i j : Nat} {B B5 : List Bool} (hR : ∀ x m : Int, m ∈ R x → 0 ≤ m ∧ m < N) (hB : ∀ x, bAt B x ↔ (0 ≤ x ∧ x < (N : Int)) ∧ Stp R i x) (h5 : B5.length = j) (h : ∀ x, bAt B5 x ↔ (0 ≤ x ∧ x < (j : Int)) ∧ Stp R (i + 1) x)
    {q : Bool} (hq : q = tb (∃ m, m ∈ R (j : Int) ∧ bAt B m)) : ∀ x, bAt (B5 ++ [q]) x ↔ (0 ≤ x ∧ x < ((j + 1 : Nat) : Int)) ∧ Stp R (i + 1) x := by
  intro x
  have hj : (∃ m, m ∈ R (j : Int) ∧ bAt B m) ↔ Stp R (i + 1) (j : Int) :=
    ⟨fun ⟨m, h1, h2⟩ => ⟨m, h1, ((hB m).1 h2).2⟩, fun ⟨m, h1, h2⟩ => ⟨m, h1, (hB m).2 ⟨hR _ _ h1, h2⟩⟩⟩
  rw [bAt_app, h5, h x, hq]
  constructor
  · rintro (⟨rfl, h1⟩ | ⟨h1, h2⟩)
    · exact ⟨by omega, hj.1 (tb_spec h1)⟩
    · exact ⟨by omega, h2⟩
  · rintro ⟨h1, h2⟩
    by_cases hx : x = (j : Int)
    · subst hx
      exact .inl ⟨rfl, tb_yes (hj.2 h2)⟩
    · exact .inr ⟨by omega, h2⟩
set_option maxRecDepth 100000 in
set_option maxHeartbeats 1600000 in
theorem mixedLoop_any (v u : Value) (g : Gr) (k y : Int) (ch : List Int) (w : World) (hv : GrR w w.heap.size v g) (hm : g.ls.length ≤ 1048576) (hu : SlR ic 1 w w.heap.size u ch) (hc : ch.length ≤ 1048576) :
    Calls Try.prog 20 #[v, .int .i64 k, .int .i64 y, u] w
      fun e w' => ∃ v', e = .returned v' ∧ Own ic 3 1 w' w.heap.size v' (loopX g k y ch) ∧ Below w.heap.size w w' := by
  have hvv := hv
  obtain ⟨A, cap, rfl, _, _⟩ := hv.form
  obtain ⟨wb, hwb⟩ : ∃ wb, wb = w.alloc (Obj.cells #[.int .i64 g.n, .slice A g.ls.length cap] 25) := ⟨_, rfl⟩
  have hbw : Below w.heap.size w wb := by rw [hwb]; exact below1 _ _
  have HB : Hid (Blk wb w.heap.size 25 #[.int .i64 g.n, .slice A g.ls.length cap]) := hide (by rw [hwb]; exact Blk.new _ _ _)
  have HV := hide (hvv.up hbw)
  have HU := hide (hu.up hbw)
  have HVW := hide hvv
  have c0 := HB.out.cell 0
  have c1 := HB.out.cell 1
  have hmf : ∀ (fn : Fn) (first cap : Array Value) (w : World), (Instr.makeFunc fn first cap).run Try.prog w = .ok (.func fn first cap) w := fun _ _ _ _ => rfl
  clear hvv hv hu
  obtain ⟨RX, hR⟩ : ∃ RX, RX = loopX g k y ch := ⟨_, rfl⟩
  have HR := hide hR
  rw [← hR]
  clear hR
  go_enter Try.func20, Try.ntmps20
  go_wp2_with fail
  rw [← hwb]
  clear hwb
  refine (hasNode_any _ g _ _ HV.out hm).mono ?_
  rintro e w1 ⟨rfl, hb1⟩
  have HB1 := hide (HB.out.up hb1)
  have HV1 := hide (HV.out.up hb1)
  have HU1 := hide (HU.out.up hb1)
  have hb01 := hbw.trans (hb1.mono hbw.size)
  clear c0 c1 HB HV HU hb1 hbw
  have c0 := HB1.out.cell 0
  have c1 := HB1.out.cell 1
  by_cases hA : ¬ (GV g ∧ Nd g y)
  · rw [tb_no hA]
    have HK : Hid (RX = []) := hide (by rw [HR.out, loopX, okL_no fun h => hA (⟨h.1, h.2.2⟩)])
    clear hA
    go_wp2
    go_ret
    exact ⟨_, rfl, by rw [HK.out]; exact Own.nil _ _ _ _ _, hb01⟩
  have hA' := Classical.not_not.1 hA
  rw [tb_yes hA']
  have HA := hide hA'
  clear hA hA'
  go_wp2_with fail
  refine (hasLink_any _ g _ _ HV1.out hm).mono ?_
  rintro e w2 ⟨rfl, hb2⟩
  have HB2 := hide (HB1.out.up hb2)
  have HV2 := hide (HV1.out.up hb2)
  have HU2 := hide (HU1.out.up hb2)
  have hb02 := hb01.trans (hb2.mono hb01.size)
  clear c0 c1 HB1 HV1 HU1 hb2 hb01
  have c0 := HB2.out.cell 0
  have c1 := HB2.out.cell 1
  by_cases hA : ¬ (GV g ∧ Ix g k)
  · rw [tb_no hA]
    have HK : Hid (RX = []) := hide (by rw [HR.out, loopX, okL_no fun h => hA (⟨h.1, h.2.1⟩)])
    clear hA
    go_wp2
    go_ret
    exact ⟨_, rfl, by rw [HK.out]; exact Own.nil _ _ _ _ _, hb02⟩
  have hA' := Classical.not_not.1 hA
  rw [tb_yes hA']
  have HK : Hid (Ok g y k) := hide ⟨hA'.1, hA'.2, HA.out.2⟩
  clear hA hA'
  go_wp2_with fail
  refine (mixedHops_any _ u g k y ch _ HV2.out HU2.out hc HK.out).mono ?_
  rintro e w3 ⟨v3, rfl, ⟨us, hM⟩, hb3⟩
  obtain ⟨hn1, hn2⟩ := HK.out.1.n
  obtain ⟨N, hN⟩ : ∃ N : Nat, g.n = N := ⟨g.n.toNat, by omega⟩
  have HN := hide hN
  have hNt : g.n.toNat = N := by omega
  obtain ⟨R, hR⟩ : ∃ R, R = mixR g k y ch := ⟨_, rfl⟩
  have HRR := hide hR
  rw [hNt, ← hR] at hM
  have HRI : Hid (∀ x m : Int, m ∈ R x → 0 ≤ m ∧ m < (N : Int)) := hide (by
    intro x m h
    rw [hR] at h
    have := mixR_in HK.out.1 x m h
    omega)
  have HRL : Hid (∀ x : Int, (R x).length ≤ 8) := hide (by
    intro x
    rw [hR]
    exact mixR_len HK.out.1 _ _ _ _)
  have hul : us.length = N := by rw [hM.len, mixTo_len]
  have hN1 : 1 ≤ N := by omega
  have hN8 : N ≤ 8 := by omega
  obtain ⟨o, cp, rfl, _, _⟩ := hM.o.form (by omega)
  rw [hul] at hM
  rw [hul]
  have HM3 := hide (hM.low hb02.size)
  have hb03 := hb02.trans (hb3.mono hb02.size)
  have HB3 := hide (HB2.out.up hb3)
  rw [hN] at HB3
  clear c0 c1 hM hul hR HB2 HV2 HU2 hb3 hN hNt hb02 hn1 hn2
  have c0 := HB3.out.cell 0
  have hb34 := below1 w3 (Obj.cells #[.bool true] 4)
  have hX := Blk.new w3 4 #[.bool true]
  obtain ⟨w4, hw4⟩ : ∃ w4, w4 = w3.alloc (Obj.cells #[.bool true] 4) := ⟨_, rfl⟩
  rw [← hw4] at hb34 hX
  obtain ⟨X, hXe⟩ : ∃ X, X = w3.heap.size := ⟨_, rfl⟩
  rw [← hXe] at hX
  have HX := hide hX
  have HB4 := hide (HB3.out.up hb34)
  have HM4 := hide (HM3.out.below hb34)
  have hb04 := hb03.trans (hb34.mono hb03.size)
  clear hX c0 HB3 HM3 hb34 hb03
  have c0 := HB4.out.cell 0
  rw [hw4] at c0
  go_wp2_with fail
  rw [← hw4] at c0
  rw [← hw4, ← hXe]
  clear hw4 hXe
  refine (repeatB_any true N X _ ⟨hN1, hN8⟩ HX.out).mono ?_
  rintro e w5 ⟨o5, rfl, hO5, hb5⟩
  have h56 := below1 w5 (Obj.cells #[.slice (some ⟨o5, 0, none⟩) N N] 77)
  have hb05 := hb04.trans (hb5.mono hb04.size)
  have hL6 : LpI w (w5.alloc (Obj.cells #[.slice (some ⟨o5, 0, none⟩) N N] 77)) w5.heap.size (List.replicate N true) (.slice (some ⟨o, 0, none⟩) N cp) us (mixTo R N) #[.int .i64 (N : Int), .slice A g.ls.length cap] (.agg #[.int .i64 g.n, .slice A g.ls.length cap]) g :=
    ⟨hb05.trans (h56.mono hb05.size), (HB4.out.up hb5).up h56, HVW.out.below (hb05.trans (h56.mono hb05.size)), (HM4.out.below hb5).below h56, hb05.size, _, _, by rw [List.length_replicate]; exact Blk.new _ _ _, by rw [List.length_replicate]; exact (hO5.low hb04.size).below h56⟩
  obtain ⟨w6, hw6⟩ : ∃ w6, w6 = w5.alloc (Obj.cells #[.slice (some ⟨o5, 0, none⟩) N N] 77) := ⟨_, rfl⟩
  obtain ⟨T, hT⟩ : ∃ T, T = w5.heap.size := ⟨_, rfl⟩
  rw [← hw6, ← hT] at hL6
  have HL6 := hide hL6
  clear hL6 hO5 hb5 h56 hb05 hb04 c0 HB4 HM4 HX
  go_upto_region 5 with fail
  rw [← hw6, ← hT]
  clear hw6 hT
  have c0 := HL6.out.b.cell 0
  go_wp2
  clear c0
  go_loopg [34] (N) (fun gg iv wr => ∃ (i : Nat) (B : List Bool), i + gg = N ∧ iv = .int .i64 i ∧ B.length = N ∧ Hid (∀ x, bAt B x ↔ (0 ≤ x ∧ x < (N : Int)) ∧ Stp R i x) ∧ Hid (LpI w wr T B (.slice (some ⟨o, 0, none⟩) N cp) us (mixTo R N) #[.int .i64 (N : Int), .slice A g.ls.length cap] (.agg #[.int .i64 g.n, .slice A g.ls.length cap]) g))
  case atStart => exact ⟨0, _, by omega, rfl, by simp, hide (can_start R), HL6⟩
  case round =>
    clear HL6
    obtain ⟨i, B, hi, rfl, hBl, HBX, HL⟩ := hrel
    by_cases hlt : i < N
    · obtain ⟨fa, rfl⟩ : ∃ fa, gk = fa + 1 := ⟨gk - 1, by omega⟩
      obtain ⟨wo, hwo⟩ : ∃ wo, wo = wr := ⟨_, rfl⟩
      subst hwo
      have h1 := below1 wo (Obj.cells #[] 4)
      have hE := ownE (enc := blc) (s := 1) wo 4 (Nat.le_refl _)
      obtain ⟨w7, hw7⟩ : ∃ w7, w7 = wo.alloc (Obj.cells #[] 4) := ⟨_, rfl⟩
      obtain ⟨E, hEE⟩ : ∃ E, E = wo.heap.size := ⟨_, rfl⟩
      rw [← hw7] at h1 hE
      have HE : Hid (Own blc 4 1 w7 wo.heap.size (.slice (some ⟨E, 0, none⟩) 0 0) []) := hide (by rw [hEE]; exact hE)
      clear hE
      go_upto_region 8 with fail
      rw [← hw7, ← hEE]
      clear hw7 hEE
      have c0 := (HL.out.below h1).b.cell 0
      go_wp2
      clear c0
      go_loopg [11, 39] (N) (fun gg rv jv wr => ∃ (j : Nat) (A5 : Option Addr) (c5 : Nat) (B5 : List Bool), j + gg = N ∧ rv = .slice A5 j c5 ∧ jv = .int .i64 j ∧ B5.length = j ∧ Below wo.heap.size wo wr ∧ Hid (Own blc 4 1 wr wo.heap.size (.slice A5 j c5) B5) ∧ Hid (∀ x, bAt B5 x ↔ (0 ≤ x ∧ x < (j : Int)) ∧ Stp R (i + 1) x))
      case atStart => exact ⟨0, _, _, [], by omega, rfl, rfl, rfl, h1, HE, hide fun x => ⟨fun h => by have := bAt_lt h; simp at this; omega, fun h => by omega⟩⟩
      case round =>
        clear HE h1
        obtain ⟨j, A5, c5, B5, hj, rfl, rfl, h5, hbe, HO, HB5⟩ := hrel
        have HLs := hide (HL.out.below hbe)
        by_cases hlj : j < N
        · obtain ⟨Ah, ch', hcell, hOh⟩ := HLs.out.m.at (mixTo_get R hlj)
          have hRl := HRL.out (j : Int)
          obtain ⟨L, hL⟩ : ∃ L, L = R (j : Int) := ⟨_, rfl⟩
          rw [← hL] at hcell hOh hRl
          have hcon := hasCan_any T B _ L wr HLs.out.cap (hOh.slr ic_len) (by omega) (fun m hm => by rw [hL] at hm; have := HRI.out _ _ hm; omega)
          obtain ⟨q, hq⟩ : ∃ q, q = tb (∃ m, m ∈ L ∧ bAt B m) := ⟨_, rfl⟩
          rw [← hq] at hcon
          rw [hL] at hq
          have HNX := hide (can_next HRI.out HBX.out h5 HB5.out hq)
          have HCON := hide hcon
          clear hcon hq hL hOh HB5
          go_wp2_with fail
          refine HCON.out.mono ?_
          rintro e w8 ⟨rfl, hb8⟩
          have hbe8 := hbe.trans (hb8.mono hbe.size)
          have HO8 := hide (HO.out.below hb8)
          clear hcell hb8 HO HLs HCON
          go_upto_region 12 with (at_builtin; refine wpList_appN (by rfl) infB (.tmp 42) (.tmp 49) (by rfl) _ _ (by rfl) (by rfl) wo B5 [q] (B5 ++ [q]) (j + 1) rfl (by simp [h5]) (HO8.out.below (below1 _ _)) (hbe8.trans ((below1 _ _).mono hbe8.size)) (slr_bool _ _) (by omega) ?_; intro Ay capy w4 hO4 hg4 hb4)
          have HO4 := hide hO4
          clear hO4 hg4 HO8 hbe hbe8
          go_wp2
          go_roundg (gk - 1)
          case measure => omega
          case rel => exact ⟨j + 1, _, _, _, by omega, rfl, by go_num, by simp [h5], hb4, HO4, HNX⟩
        · obtain rfl : j = N := by omega
          have hp := HLs.out.put (HO.out.low HL.out.bw.size) h5.symm
          have HP := hide hp
          obtain ⟨At, ct, hBt, _⟩ := HLs.out.t
          obtain ⟨u0, q0⟩ := hBt.slot (i := 0) (by simp)
          have z0 := hBt.free 0
          clear hp hBt HLs HO
          go_wp2
          go_roundg fa
          case measure => omega
          case rel => exact ⟨i + 1, B5, by omega, by go_num, h5, HB5, HP⟩
    · obtain rfl : i = N := by omega
      have c0 := HL.out.b.cell 0
      have c1 := HL.out.b.cell 1
      have HGV := hide (HL.out.gr.more HL.out.bw.size)
      rw [HN.out] at HGV
      go_wp2_with fail
      refine (byCan_any T B _ g _ HL.out.cap HGV.out HK.out.1 (by rw [hBl]; have := HN.out; omega)).mono ?_
      rintro e w9 ⟨v9, rfl, hO9, hb9⟩
      have HX : Hid (RX = selTo (bAt B) g.n.toNat) := hide (by
        have hn := HN.out
        rw [HR.out, loopX, okL_yes HK.out, ← HRR.out]
        exact selTo_congr fun x hx => ⟨fun h => (HBX.out x).2 ⟨by omega, by rw [← show g.n.toNat = i from by omega]; exact h⟩, fun h => by rw [show g.n.toNat = i from by omega]; exact ((HBX.out x).1 h).2⟩)
      rw [← HX.out] at hO9
      have HO9 := hide (hO9.low HL.out.bw.size)
      clear c0 c1 hO9
      go_wp2
      go_ret
      exact ⟨_, rfl, HO9.out, HL.out.bw.trans (hb9.mono HL.out.bw.size)⟩

theorem cell_far (w : World) {p : Addr} {b i : Nat} {u : Value} (h : p.block ≠ b) : (w.setCell ⟨b, i, none⟩ u).cell? p = w.cell? p := by
  unfold World.cell?
  rw [Below.heap_setCell w ⟨b, i, none⟩ u p.block h]
theorem own_madeB (w : World) {N : Nat} (hN : N ≤ 8) : Own blc 4 1 (w.alloc (.cells (madeCells #[Value.bool false] N) 4)) w.heap.size (.slice (some ⟨w.heap.size, 0, none⟩) N N) (List.replicate N false) := by
  have h := World.ownsRow_lit (e := 4) (size := 1) (base := w.heap.size) w (madeCells #[Value.bool false] N) N (Nat.le_refl _) (by unfold maxLen; omega) (by simp [madeCells])
  have e : (madeCells #[Value.bool false] N).toList = List.replicate N (.bool false) := toList_madeCells_one _ _
  rw [e] at h
  unfold Own
  rw [flat_blc, List.length_replicate]
  exact h
theorem LpI.set {w W : World} {T : Nat} {B : List Bool} {hv vg : Value} {us : List Sv} {M : List (List Int)} {cG : Array Value} {g : Gr} (h : LpI w W T B hv us M cG vg g) {ob cap j : Nat} (hT : Blk W T 77 #[.slice (some ⟨ob, 0, none⟩) B.length cap]) (hO : Own blc 4 1 W w.heap.size (.slice (some ⟨ob, 0, none⟩) B.length cap) B) (hj : j < B.length) (b : Bool) :
    LpI w (W.setCell ⟨ob, j, none⟩ (.bool b)) T (B.set j b) hv us M cG vg g := by
  obtain ⟨x, hx⟩ := get_some hj
  have s1 := hO.set blc_len (k := j) (j := 0) (x := x) (y := b) (u := .bool b) rfl hx (by decide) rfl
  rw [Nat.mul_one, Nat.add_zero] at s1
  have hlo : w.heap.size ≤ ob := (World.ownsRow.lt hO ob rfl).1
  have hob := own_blk_ne hO hT (by decide)
  have hb : Below w.heap.size W (W.setCell ⟨ob, j, none⟩ (.bool b)) := (Below.refl _ _).setCell hlo _
  have h1 := own_blk_ne hO h.b (by decide)
  have hM : ∀ {e : TypeId} {α : Type} {enc : α → List Value} {v : Value} {l : List α}, Own enc e 1 W w.heap.size v l → e ≠ 4 → Own enc e 1 (W.setCell ⟨ob, j, none⟩ (.bool b)) w.heap.size v l := fun k hne => own_far' k (fun hq => own_types hO k (fun h => hne h.symm) ob rfl hq) _
  exact ⟨h.bw.trans hb, h.b.far (fun he => h1 (by rw [he]; rfl)) _, h.gr.below hb, ⟨hM h.m.o (by decide), h.m.len, fun i s L hs hL => hM (h.m.el i s L hs hL) (by decide)⟩, h.lo,
    some ⟨ob, 0, none⟩, cap, by rw [List.length_set]; exact hT.far (fun he => hob (by rw [he]; rfl)) _, by rw [List.length_set]; exact s1⟩
set_option maxRecDepth 100000 in
set_option maxHeartbeats 1600000 in
theorem mixedArrives_any (v u : Value) (g : Gr) (k y : Int) (ch : List Int) (w : World) (hv : GrR w w.heap.size v g) (hm : g.ls.length ≤ 1048576) (hu : SlR ic 1 w w.heap.size u ch) (hc : ch.length ≤ 1048576) :
    Calls Try.prog 21 #[v, .int .i64 k, .int .i64 y, u] w
      fun e w' => ∃ v', e = .returned v' ∧ Own ic 3 1 w' w.heap.size v' (arrX g k y ch) ∧ Below w.heap.size w w' := by
  have hvv := hv
  obtain ⟨A, cap, rfl, _, _⟩ := hv.form
  obtain ⟨wb, hwb⟩ : ∃ wb, wb = w.alloc (Obj.cells #[.int .i64 g.n, .slice A g.ls.length cap] 25) := ⟨_, rfl⟩
  have hbw : Below w.heap.size w wb := by rw [hwb]; exact below1 _ _
  have HB : Hid (Blk wb w.heap.size 25 #[.int .i64 g.n, .slice A g.ls.length cap]) := hide (by rw [hwb]; exact Blk.new _ _ _)
  have HV := hide (hvv.up hbw)
  have HU := hide (hu.up hbw)
  have HVW := hide hvv
  have c0 := HB.out.cell 0
  have c1 := HB.out.cell 1
  have hmf : ∀ (fn : Fn) (first cap : Array Value) (w : World), (Instr.makeFunc fn first cap).run Try.prog w = .ok (.func fn first cap) w := fun _ _ _ _ => rfl
  clear hvv hv hu
  obtain ⟨RX, hR⟩ : ∃ RX, RX = arrX g k y ch := ⟨_, rfl⟩
  have HR := hide hR
  rw [← hR]
  clear hR
  go_enter Try.func21, Try.ntmps21
  go_wp2_with fail
  rw [← hwb]
  clear hwb
  refine (hasNode_any _ g _ _ HV.out hm).mono ?_
  rintro e w1 ⟨rfl, hb1⟩
  have HB1 := hide (HB.out.up hb1)
  have HV1 := hide (HV.out.up hb1)
  have HU1 := hide (HU.out.up hb1)
  have hb01 := hbw.trans (hb1.mono hbw.size)
  clear c0 c1 HB HV HU hb1 hbw
  have c0 := HB1.out.cell 0
  have c1 := HB1.out.cell 1
  by_cases hA : ¬ (GV g ∧ Nd g y)
  · rw [tb_no hA]
    have HK : Hid (RX = []) := hide (by rw [HR.out, arrX, okL_no fun h => hA (⟨h.1, h.2.2⟩)])
    clear hA
    go_wp2
    go_ret
    exact ⟨_, rfl, by rw [HK.out]; exact Own.nil _ _ _ _ _, hb01⟩
  have hA' := Classical.not_not.1 hA
  rw [tb_yes hA']
  have HA := hide hA'
  clear hA hA'
  go_wp2_with fail
  refine (hasLink_any _ g _ _ HV1.out hm).mono ?_
  rintro e w2 ⟨rfl, hb2⟩
  have HB2 := hide (HB1.out.up hb2)
  have HV2 := hide (HV1.out.up hb2)
  have HU2 := hide (HU1.out.up hb2)
  have hb02 := hb01.trans (hb2.mono hb01.size)
  clear c0 c1 HB1 HV1 HU1 hb2 hb01
  have c0 := HB2.out.cell 0
  have c1 := HB2.out.cell 1
  by_cases hA : ¬ (GV g ∧ Ix g k)
  · rw [tb_no hA]
    have HK : Hid (RX = []) := hide (by rw [HR.out, arrX, okL_no fun h => hA (⟨h.1, h.2.1⟩)])
    clear hA
    go_wp2
    go_ret
    exact ⟨_, rfl, by rw [HK.out]; exact Own.nil _ _ _ _ _, hb02⟩
  have hA' := Classical.not_not.1 hA
  rw [tb_yes hA']
  have HK : Hid (Ok g y k) := hide ⟨hA'.1, hA'.2, HA.out.2⟩
  clear hA hA'
  go_wp2_with fail
  refine (mixedHops_any _ u g k y ch _ HV2.out HU2.out hc HK.out).mono ?_
  rintro e w3 ⟨v3, rfl, ⟨us, hM⟩, hb3⟩
  obtain ⟨hn1, hn2⟩ := HK.out.1.n
  obtain ⟨N, hN⟩ : ∃ N : Nat, g.n = N := ⟨g.n.toNat, by omega⟩
  have HN := hide hN
  have hNt : g.n.toNat = N := by omega
  obtain ⟨R, hR⟩ : ∃ R, R = mixR g k y ch := ⟨_, rfl⟩
  have HRR := hide hR
  rw [hNt, ← hR] at hM
  have HRI : Hid (∀ x m : Int, m ∈ R x → 0 ≤ m ∧ m < (N : Int)) := hide (by
    intro x m h
    rw [hR] at h
    have := mixR_in HK.out.1 x m h
    omega)
  have HRL : Hid (∀ x : Int, (R x).length ≤ 8) := hide (by
    intro x
    rw [hR]
    exact mixR_len HK.out.1 _ _ _ _)
  have hul : us.length = N := by rw [hM.len, mixTo_len]
  have hN1 : 1 ≤ N := by omega
  have hN8 : N ≤ 8 := by omega
  obtain ⟨o, cp, rfl, _, _⟩ := hM.o.form (by omega)
  rw [hul] at hM
  rw [hul]
  have HM3 := hide (hM.low hb02.size)
  have hb03 := hb02.trans (hb3.mono hb02.size)
  have HB3 := hide (HB2.out.up hb3)
  rw [hN] at HB3
  clear c0 c1 hM hul hR HB2 HV2 HU2 hb3 hN hNt hb02 hn1 hn2
  have c0 := HB3.out.cell 0
  obtain ⟨ny, hny⟩ := Int.eq_ofNat_of_zero_le HK.out.2.2.1
  have HNY := hide hny
  have hyN : ny < N := by have := HK.out.2.2.2; have := HN.out; omega
  obtain ⟨i0, hi, hz0, hz1, hz2⟩ := info_parts Try.infoB
  have hmk := fun W => run_make_n (P := Try.prog) 77 4 i0 _ Try.underlying77 hi hz0 .i64 .i64 N N (Nat.le_refl _) (by rw [hz2]; omega) (by omega) W
  rw [hz1] at hmk
  clear hi hz0 hz1 hz2
  have h34 := below1 w3 (Obj.cells (madeCells #[Value.bool false] N) 4)
  have hO4 := own_madeB w3 hN8
  have h46 := below1 (w3.alloc (Obj.cells (madeCells #[Value.bool false] N) 4)) (Obj.cells #[.slice (some ⟨w3.heap.size, 0, none⟩) N N] 77)
  have h36 := h34.trans (h46.mono h34.size)
  have hL6 : LpI w ((w3.alloc (Obj.cells (madeCells #[Value.bool false] N) 4)).alloc (Obj.cells #[.slice (some ⟨w3.heap.size, 0, none⟩) N N] 77)) (w3.heap.size + 1) (List.replicate N false) (.slice (some ⟨o, 0, none⟩) N cp) us (mixTo R N) #[.int .i64 (N : Int), .slice A g.ls.length cap] (.agg #[.int .i64 g.n, .slice A g.ls.length cap]) g :=
    ⟨hb03.trans (h36.mono hb03.size), HB3.out.up h36, HVW.out.below (hb03.trans (h36.mono hb03.size)), HM3.out.below h36, by have := hb03.size; omega, _, _, by rw [List.length_replicate]; exact Blk.new1 _ _ _ _, by rw [List.length_replicate]; exact (hO4.low hb03.size).below h46⟩
  obtain ⟨w6, hw6⟩ : ∃ w6, w6 = (w3.alloc (Obj.cells (madeCells #[Value.bool false] N) 4)).alloc (Obj.cells #[.slice (some ⟨w3.heap.size, 0, none⟩) N N] 77) := ⟨_, rfl⟩
  obtain ⟨T, hT⟩ : ∃ T, T = w3.heap.size + 1 := ⟨_, rfl⟩
  rw [← hw6, ← hT] at hL6
  have HL6 := hide hL6
  clear hL6 hO4 h34 h46 h36 hb03 HB3 HM3
  go_upto_region 5 with fail
  rw [← hw6, ← hT]
  clear hw6 hT c0 hmk
  have c0 := HL6.out.b.cell 0
  go_wp2
  clear c0
  go_loopg [32] (N) (fun gg iv wr => ∃ (r : Nat) (B : List Bool), r + gg = N ∧ iv = .int .i64 r ∧ Hid (ImA R (ny : Int) N r 0 B) ∧ Hid (LpI w wr T B (.slice (some ⟨o, 0, none⟩) N cp) us (mixTo R N) #[.int .i64 (N : Int), .slice A g.ls.length cap] (.agg #[.int .i64 g.n, .slice A g.ls.length cap]) g))
  case atStart => exact ⟨0, _, by omega, rfl, hide (imA_start R _ N), HL6⟩
  case round =>
    clear HL6
    obtain ⟨r, B, hr, rfl, HI, HL⟩ := hrel
    by_cases hlt : r < N
    · obtain ⟨fa, rfl⟩ : ∃ fa, gk = fa + 1 := ⟨gk - 1, by omega⟩
      have c0 := HL.out.b.cell 0
      go_wp2
      clear c0
      go_loopg [36] (N) (fun gg jv wr => ∃ (j : Nat) (B : List Bool), j + gg = N ∧ jv = .int .i64 j ∧ Hid (ImA R (ny : Int) N r j B) ∧ Hid (LpI w wr T B (.slice (some ⟨o, 0, none⟩) N cp) us (mixTo R N) #[.int .i64 (N : Int), .slice A g.ls.length cap] (.agg #[.int .i64 g.n, .slice A g.ls.length cap]) g))
      case atStart => exact ⟨0, B, by omega, rfl, HI, HL⟩
      case round =>
        clear HI HL
        obtain ⟨j, B, hj, rfl, HI, HL⟩ := hrel
        by_cases hlj : j < N
        · have hBl := HI.out.len
          obtain ⟨At, ct, hT, hOB⟩ := HL.out.t
          obtain ⟨ob, ct', he, _, _⟩ := hOB.form (by omega)
          obtain ⟨rfl, rfl⟩ : At = some ⟨ob, 0, none⟩ ∧ ct = ct' := by
            injection he with h1 h2 h3
            exact ⟨h1, h3⟩
          clear he
          obtain ⟨Ah, ch', hcell, hOh⟩ := HL.out.m.at (mixTo_get R hlj)
          have hRl := HRL.out (j : Int)
          obtain ⟨L, hL⟩ : ∃ L, L = R (j : Int) := ⟨_, rfl⟩
          have HLE := hide hL
          rw [← hL] at hcell hOh hRl
          have HT := hide hT
          have HOB := hide hOB
          have HOH := hide hOh
          have cT := hT.cell 0
          rw [hBl] at cT
          clear hL hT hOB hOh
          go_upto_region 10 with fail
          obtain ⟨⟨u0, q0⟩, z0⟩ := HOB.out.slot (k := j) (j := 0) rfl (by omega) (by decide)
          rw [Nat.mul_one, Nat.add_zero] at q0 z0
          by_cases hjy : j = ny
          · have e1 : ((j : Int) == (ny : Int)) = true := by rw [beq_iff_eq]; omega
            have HF : Hid (Fit R (ny : Int) B (j : Int)) := hide (.inl (by omega))
            have HI2 := hide (HI.out.step HRI.out hlj (b := true) ⟨fun _ => HF.out, fun _ => rfl⟩)
            have HL2 := hide ((HL.out.set HT.out HOB.out (j := j) (by omega) true).below (Below.refl _ _).drew)
            clear hjy HF
            go_region
            go_wp2
            go_roundg (gk - 1)
            case measure => omega
            case rel => exact ⟨j + 1, _, by omega, by go_num, HI2, HL2⟩
          have e1 : ((j : Int) == (ny : Int)) = false := by rw [beq_eq_false_iff_ne]; omega
          by_cases hL0 : L.length = 0
          · have HF : Hid (¬ Fit R (ny : Int) B (j : Int)) := hide fun h => by
              rcases h with h | h
              · omega
              · rw [← HLE.out] at h
                exact h.1 (List.eq_nil_of_length_eq_zero hL0)
            have HI2 := hide (HI.out.step HRI.out hlj (b := false) ⟨fun h => (by cases h), fun h => absurd h HF.out⟩)
            have HL2 := hide ((HL.out.set HT.out HOB.out (j := j) (by omega) false).below (Below.refl _ _).drew)
            rw [hL0] at hcell
            clear hjy HF
            go_region
            go_wp2
            go_roundg (gk - 1)
            case measure => omega
            case rel => exact ⟨j + 1, _, by omega, by go_num, HI2, HL2⟩
          have e2 : decide (0 < L.length) = true := decide_eq_true (by omega)
          obtain ⟨q, hq⟩ : ∃ q, q = tb (∃ m, m ∈ L ∧ ¬ bAt B m) := ⟨_, rfl⟩
          have HF : Hid ((!q) = true ↔ Fit R (ny : Int) B (j : Int)) := hide (by
            rw [hq, not_tb, HLE.out]
            constructor
            · intro h
              refine .inr ⟨fun h0 => hL0 (by rw [HLE.out, h0]; rfl), fun m hm => Classical.byContradiction fun hn => tb_spec h ⟨m, hm, hn⟩⟩
            · rintro (h | ⟨_, h⟩)
              · omega
              · exact tb_yes fun ⟨m, h1, h2⟩ => h2 (h m h1))
          have HI2 := hide (HI.out.step HRI.out hlj HF.out)
          have HCON := hide (fun W (hW : Below wr.heap.size wr W) => hasArr_any T B _ L W (HL.out.below hW).cap ((HOH.out.below hW).slr ic_len) (by omega) (fun m hm => by rw [HLE.out] at hm; have := HRI.out _ _ hm; omega))
          rw [← hq] at HCON
          have HC : Hid (∀ X, Below wr.heap.size wr X → X.cell? ⟨T, 0, none⟩ = some (.slice (some ⟨ob, 0, none⟩) N ct) ∧ X.cell? ⟨o, j, none⟩ = some (.slice Ah L.length ch')) :=
            hide fun X hX => by
              have h1 := (HT.out.up hX).cell 0
              rw [hBl] at h1
              exact ⟨h1, (hX.cell (World.block_lt_of_cell? wr _ hcell)).trans hcell⟩
          have HQ : Hid (∀ X, Below wr.heap.size wr X → X.cell? ⟨ob, j, none⟩ = some u0 ∧ X.frozen? ⟨ob, j, none⟩ = false) :=
            hide fun X hX => by
              have := (HOB.out.below hX).slot (k := j) (j := 0) rfl (by omega) (by decide)
              rw [Nat.mul_one, Nat.add_zero] at this
              exact ⟨(hX.cell (World.block_lt_of_cell? wr _ q0)).trans q0, this.2⟩
          have HNE : Hid (T ≠ ob ∧ o ≠ ob) := hide ⟨fun he => own_blk_ne HOB.out HT.out (by decide) (by rw [he]; rfl), fun he => own_types HOB.out HL.out.m.o (by decide) ob rfl (by rw [he]; rfl)⟩
          have HC2 : Hid (∀ X, Below wr.heap.size wr X → ∀ u, (X.setCell ⟨ob, j, none⟩ u).cell? ⟨T, 0, none⟩ = some (.slice (some ⟨ob, 0, none⟩) N ct) ∧ (X.setCell ⟨ob, j, none⟩ u).cell? ⟨o, j, none⟩ = some (.slice Ah L.length ch')) :=
            hide fun X hX u => by rw [cell_far X HNE.out.1, cell_far X HNE.out.2]; exact HC.out X hX
          have HL2 := hide (fun W (hW : Below wr.heap.size wr W) => (HL.out.below hW).set (HT.out.up hW) (HOB.out.below hW) (j := j) (by omega) (!q))
          have hd0 := (Below.refl wr.heap.size wr).drew
          clear hjy HF hq hcell cT q0 z0
          go_region_held3 (fun X => X.cell? ⟨T, 0, none⟩ = some (.slice (some ⟨ob, 0, none⟩) N ct) ∧ X.cell? ⟨o, j, none⟩ = some (.slice Ah L.length ch')) (first | exact HC.out _ hd0 | exact HC.out _ hB4 | exact HC2.out _ hB4 _ | fail) (first | (go_at_call 68; refine (HCON.out _ hd0).mono ?_; rintro e w4 ⟨rfl, hb4⟩; have hB4 := hd0.trans hb4; obtain ⟨q4, z4⟩ := HQ.out _ hB4) | fail)
          have HL3 := hide (HL2.out _ hB4)
          clear HL2 hb4 q4 z4
          go_wp2
          go_roundg (gk - 1)
          case measure => omega
          case rel => exact ⟨j + 1, _, by omega, by go_num, HI2, HL3⟩
        · obtain rfl : j = N := by omega
          have HI2 := hide HI.out.round
          go_wp2
          go_roundg fa
          case measure => omega
          case rel => exact ⟨r + 1, B, by omega, by go_num, HI2, HL⟩
    · obtain rfl : r = N := by omega
      have hBl := HI.out.len
      have c0 := HL.out.b.cell 0
      have c1 := HL.out.b.cell 1
      have HGV := hide (HL.out.gr.more HL.out.bw.size)
      rw [HN.out] at HGV
      go_wp2_with fail
      refine (byArr_any T B _ g _ HL.out.cap HGV.out HK.out.1 (by rw [hBl]; have := HN.out; omega)).mono ?_
      rintro e w9 ⟨v9, rfl, hO9, hb9⟩
      have HX : Hid (RX = selTo (bAt B) g.n.toNat) := hide (by
        have hn := HN.out
        rw [HR.out, arrX, okL_yes HK.out, ← HRR.out]
        exact selTo_congr fun x hx => by rw [HNY.out]; exact (HI.out.done HRI.out (show (0 : Int) ≤ (x : Int) ∧ (x : Int) < (r : Int) by omega)).symm)
      rw [← HX.out] at hO9
      have HO9 := hide (hO9.low HL.out.bw.size)
      clear c0 c1 hO9
      go_wp2
      go_ret
      exact ⟨_, rfl, HO9.out, HL.out.bw.trans (hb9.mono HL.out.bw.size)⟩
end Go.Proofs.Ytbhkjeicogjfbaa
