/- How the arguments of a law are opened: a slice that can be read as data is a slice of rows of cells. Conditions: none. -/
import Derived.Test.YtbhkjeicogjfbaaBase
import Derived.ProofKit
import Derived.OpenShut
import Derived.ShutString
import Derived.ChangeOld
import Derived.Deep.Slices
import Derived.Deep.Fields
import Derived.ChangeSame
import Derived.Lib.SmallJoins
namespace Go.Proofs.Ytbhkjeicogjfbaa
open Go.RowKit Go.ChangeShapes Go.WideShapes Go.Deep

theorem own : ownKnob Try.prog.godebug = none := by kernel_rfl
theorem laidOut : laidOutB Try.prog = true := by kernel_rfl

theorem spot_none {w : World} {a : Addr} {v : Value} (h : w.cell? a = some v) : a = ⟨a.block, a.off, none⟩ := by
  obtain ⟨b, o, s⟩ := a
  cases s with
  | none => rfl
  | some x => simp [World.cell?] at h; split at h <;> cases h

theorem add_at {b o n : Nat} : (⟨b, o, none⟩ : Addr).add n = ⟨b, o + n, none⟩ := by
  unfold Addr.add
  split
  · rename_i h; subst h; rfl
  · rfl

section
variable {H : Type} {enc : TypeId × Value → H} {P : Program} {w : World} {base : Nat} {spare : Nat → Bool} {held : Bool}

/-- A slice of structs whose fields are ints: every field of every element is an int in its cell. -/
theorem open_rows {t e : TypeId} {fs : Array Field} {fuel : Nat} {v : Value} {x : DataW H × List MemPlace} (ht : P.underlying t = some (.slice e)) (he : P.underlying e = some (.struct fs))
    (hone : oneCellFields P fs = true) (hC : P.cellsOf e = fs.size) (hpos : 0 < fs.size) (hint : ∀ (j : Nat) (f : Field), fs[j]? = some f → P.underlying f.type = some (.int .i64))
    (h : DataW.trod enc P w base spare held fuel t [v] = some x) :
    ∃ (A : Option Addr) (len cap : Nat) (g : Nat → Nat → Int), v = .slice A len cap ∧ len ≤ cap ∧ len ≤ maxLen ∧
      (0 < len → ∃ b off, A = some ⟨b, off, none⟩ ∧ b < w.heap.size ∧ ∀ i j, i < len → j < fs.size → w.cell? ⟨b, off + i * fs.size + j, none⟩ = some (.int .i64 (g i j))) := by
  rcases open_slice ht h with ⟨h0, _⟩ | ⟨a, len, cap, m, n, D, Pl, hcs, hb, hl, hm, hmm, hx, hi⟩
  · cases h0
    exact ⟨none, 0, 0, fun _ _ => 0, rfl, Nat.le_refl _, Nat.zero_le _, fun h => absurd h (by omega)⟩
  · cases hcs
    have hlm : len ≤ m := by rw [hmm]; split <;> omega
    have key : ∀ i j, ∃ z : Int, i < len → j < fs.size → w.cell? (a.add (i * fs.size + j)) = some (.int .i64 z) := by
      intro i j
      by_cases hi' : i < len
      · by_cases hj : j < fs.size
        · obtain ⟨cs', hc, ht'⟩ := hi i (by omega)
          rw [hC] at hc
          obtain ⟨ys, n', hn', hy, hlen, hyl, hf⟩ := DataW.trod_struct he ht'
          obtain ⟨_, hcl, hat⟩ := World.cells?_some hc
          have hfj : fs[j]? = some fs[j] := Array.getElem?_eq_getElem hj
          obtain ⟨ho, hk⟩ := hone_of hone j _ hfj
          have hcell := hat j hj
          have hv : cs'[j]? = some (cs'[j]'(by omega)) := List.getElem?_eq_getElem (by omega)
          have h1 := hf j _ hfj
          rw [ho, hk] at h1
          have hone' : (cs'.drop j).take 1 = [cs'[j]'(by omega)] := by
            rw [List.drop_eq_getElem_cons (by omega)]
            rfl
          rw [hone'] at h1
          have hys : ys[j]? = some (ys[j]'(by omega)) := List.getElem?_eq_getElem (by omega)
          obtain ⟨z, hz, _, _⟩ := DataW.trod_int (hint j _ hfj) (h1.trans hys)
          refine ⟨z, fun _ _ => ?_⟩
          rw [← Go.Deep.add_add, hcell, hv]
          simpa using hz
        · exact ⟨0, fun _ h => absurd h hj⟩
      · exact ⟨0, fun h => absurd h hi'⟩
    obtain ⟨g, hg⟩ : ∃ g : Nat → Nat → Int, ∀ i j, i < len → j < fs.size → w.cell? (a.add (i * fs.size + j)) = some (.int .i64 (g i j)) :=
      ⟨fun i j => Classical.choose (key i j), fun i j => Classical.choose_spec (key i j)⟩
    refine ⟨some a, len, cap, g, rfl, hl, by omega, fun hpl => ?_⟩
    have h00 := hg 0 0 hpl hpos
    have ha : a = ⟨a.block, a.off, none⟩ := by
      have := h00
      simp only [Nat.zero_mul, Nat.add_zero] at this
      exact spot_none (by unfold Addr.add at this; simpa using this)
    refine ⟨a.block, a.off, by rw [← ha], ?_, fun i j hi' hj => ?_⟩
    · have := World.block_lt_of_cell? w _ h00
      rw [ha, add_at] at this
      exact this
    · have := hg i j hi' hj
      rw [ha, add_at, ← Nat.add_assoc] at this
      exact this

/-- A slice of integers of one kind. -/
theorem open_row {t e : TypeId} {k : IntKind} {fuel : Nat} {v : Value} {x : DataW H × List MemPlace} (ht : P.underlying t = some (.slice e)) (he : P.underlying e = some (.int k)) (hc : P.cellsOf e = 1)
    (h : DataW.trod enc P w base spare held fuel t [v] = some x) :
    ∃ (A : Option Addr) (cap : Nat) (l : List Int), v = .slice A l.length cap ∧ l.length ≤ cap ∧ l.length ≤ maxLen ∧ (∀ n ∈ l, (Lit.int k n).wf = true) ∧
      (0 < l.length → ∃ b off, A = some ⟨b, off, none⟩ ∧ b < w.heap.size ∧ ∀ i n, l[i]? = some n → w.cell? ⟨b, off + i, none⟩ = some (.int k n)) := by
  rcases open_ints ht he hc h with ⟨hcs, _⟩ | ⟨a, l, c, zs, hcs, _, hl, hm, hz, _, hcell, hwz⟩
  · cases hcs
    exact ⟨none, 0, [], rfl, Nat.le_refl _, Nat.zero_le _, fun n h => by (cases h), fun h => absurd h (by simp)⟩
  · cases hcs
    have hz' : l ≤ zs.length := by rw [hz]; split <;> omega
    have htl : (zs.take l).length = l := by simp; omega
    refine ⟨some a, c, zs.take l, by rw [htl], by rw [htl]; exact hl, by rw [htl]; omega, fun n hn => hwz n (List.mem_of_mem_take hn), fun hpl => ?_⟩
    rw [htl] at hpl
    have h00 := hcell 0 (by omega)
    have ha : a = ⟨a.block, a.off, none⟩ := spot_none (by unfold Addr.add at h00; simpa using h00)
    refine ⟨a.block, a.off, by rw [← ha], ?_, fun i n hn => ?_⟩
    · have := World.block_lt_of_cell? w _ h00
      rw [ha, add_at] at this
      exact this
    · have hil : i < l := by have := get_lt hn; omega
      have := hcell i (by omega)
      rw [ha, add_at] at this
      rw [this]
      rw [List.getElem?_take, if_pos hil] at hn
      rw [List.getD_eq_getElem?_getD, hn]
      rfl
end

section
variable {H : Type} {enc : TypeId × Value → H} {w : World} {base : Nat} {spare : Nat → Bool} {held : Bool}
/-- A slice of bytes among the arguments. -/
theorem open_bytes {fuel : Nat} {v : Value} {x : DataW H × List MemPlace} (h : DataW.trod enc Try.prog w base spare held fuel 22 [v] = some x) :
    ∃ bs : List Int, SlR bc 1 w w.heap.size v bs ∧ (bs.length ≤ 9223372036854775807 ∧ ∀ n ∈ bs, 0 ≤ n ∧ n ≤ 255) := by
  obtain ⟨A, cap, l, rfl, hl, hm, hw, hr⟩ := open_row Try.underlying22 Try.underlying5 (by kernel_rfl) h
  refine ⟨l, ⟨A, cap, rfl, hl, fun hp => ?_⟩, hm, fun n hn => ?_⟩
  · obtain ⟨b, off, rfl, hb, hc⟩ := hr hp
    refine ⟨b, off, rfl, hb, fun i n hi j u hu => ?_⟩
    match j, hu with
    | 0, hu => cases hu; rw [Nat.mul_one, Nat.add_zero]; exact hc i n hi
  · have := hw n hn
    simp [Lit.wf, IntKind.min, IntKind.max, IntKind.signed, IntKind.bits] at this
    exact ⟨by omega, by omega⟩
end
end Go.Proofs.Ytbhkjeicogjfbaa
