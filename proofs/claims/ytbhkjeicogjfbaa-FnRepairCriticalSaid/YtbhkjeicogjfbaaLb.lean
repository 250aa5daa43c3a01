/- Labels in memory; the comparison of two labels. Conditions: none. -/
import Derived.Test.YtbhkjeicogjfbaaPth
import Derived.Test.YtbhkjeicogjfbaaAppI
import Derived.Test.YtbhkjeicogjfbaaPick
namespace Go.Proofs.Ytbhkjeicogjfbaa
open Go.RowKit

def lbc (b : Lb) : List Value := [.int .i64 b.k, .int .i64 b.a]
theorem lbc_len (b : Lb) : (lbc b).length = 2 := rfl
theorem lbc_one (c : Lb) : ∀ u ∈ lbc c, u.oneCell' = true := by
  intro u hu
  simp only [lbc, List.mem_cons, List.not_mem_nil, or_false] at hu
  rcases hu with rfl | rfl <;> rfl
theorem labAt {w : World} {b off k : Nat} {cs : List Lb} {c : Lb} (h : RowsAt lbc 2 w b off cs) (hk : cs[k]? = some c) :
    w.cell? ⟨b, off + k * 2, none⟩ = some (.int .i64 c.k) ∧ w.cell? ⟨b, off + k * 2 + 1, none⟩ = some (.int .i64 c.a) :=
  ⟨h k c hk 0 _ rfl, h k c hk 1 _ rfl⟩
theorem Try.infoLb : (Try.prog.info? 92).map (fun i => (i.zero, i.size, i.bytes)) = some (some (.agg #[.int .i64 0, .int .i64 0]), 2, 16) := by kernel_rfl
theorem infLb : SlInf Try.prog 60 92 lbc 2 := by
  obtain ⟨i0, hi, hz0, hz1, hz2⟩ := info_parts Try.infoLb
  exact ⟨Try.underlying60, ⟨i0, _, hi, hz0, hz1, by rw [hz2]; decide, rfl⟩, by decide, lbc_len, lbc_one⟩
theorem slr_lab (W : World) (x : Lb) : SlR lbc 2 (W.alloc (Obj.cells #[.int .i64 x.k, .int .i64 x.a] 92)) (W.heap.size + 1) (.slice (some ⟨W.heap.size, 0, none⟩) 1 1) [x] :=
  slr_one (Blk.new W 92 #[.int .i64 x.k, .int .i64 x.a]) rfl (by omega)
theorem eqLb (c d : Lb) (w : World) : (Op.equal 92 (.agg #[.int .i64 c.k, .int .i64 c.a]) (.agg #[.int .i64 d.k, .int .i64 d.a])).run Try.prog w = .ok (eqB c d) w := by
  obtain ⟨x, y⟩ := c
  obtain ⟨x', y'⟩ := d
  have h1 : ∀ a b, (part 3 #[Value.int .i64 a, .int .i64 b] 0).run Try.prog w = .ok (.int .i64 a) w := fun a b => by kernel_rfl
  have h2 : ∀ a b, (part 3 #[Value.int .i64 a, .int .i64 b] 1).run Try.prog w = .ok (.int .i64 b) w := fun a b => by kernel_rfl
  have hs : Try.prog.stoodInHeld 92 = false := by kernel_rfl
  have e : ∀ d a b, (Op.equalIn (d+1) 3 (.int .i64 a) (.int .i64 b)).run Try.prog w = .ok (a == b) w := fun d a b => by
    simp [Op.equalIn, run_underlying Try.underlying3]
  have hq : eqB (⟨x, y⟩ : Lb) ⟨x', y'⟩ = ((x == x') && (y == y')) := by
    by_cases a : x = x'
    · by_cases b : y = y'
      · subst a; subst b; rw [eqB_self]; simp
      · rw [eqB_no (fun h => b (by cases h; rfl))]; simp [b]
    · rw [eqB_no (fun h => a (by cases h; rfl))]; simp [a]
  rw [hq]
  simp only [Op.equal, Op.maxDepth]
  unfold Op.equalIn
  simp [run_underlying Try.underlying92, hs, h1, h2, e]
  by_cases a : x = x' <;> by_cases b : y = y' <;> simp [a, b]
theorem neqLb (c d : Lb) (w : World) : (binOp .neq 92 (.agg #[.int .i64 c.k, .int .i64 c.a]) (.agg #[.int .i64 d.k, .int .i64 d.a])).run Try.prog w = .ok (.bool (!eqB c d)) w := by
  simp [binOp, eqLb]
theorem guardLb : Try.prog.eqGuardType Try.prog.depth 92 = false := by kernel_rfl
/-- The list that reads k, k+1, .. -/
def marksL : Nat → Int → List Lb
  | 0, _ => []
  | n + 1, k => ⟨k, k + 1⟩ :: marksL n (k + 2)
theorem marksL_len : ∀ (n : Nat) (k : Int), (marksL n k).length = n
  | 0, _ => rfl
  | n + 1, k => by simp [marksL, marksL_len n]
theorem marksL_get : ∀ (n : Nat) (k : Int) (i : Nat), i < n → (marksL n k)[i]? = some ⟨k + 2 * i, k + 2 * i + 1⟩
  | 0, _, i, h => by omega
  | n + 1, k, 0, _ => by simp [marksL]
  | n + 1, k, i + 1, h => by
    simp only [marksL, List.getElem?_cons_succ]
    rw [marksL_get n (k + 2) i (by omega)]
    congr 2 <;> omega
theorem marks2_only {w wr : World} {go n cap k : Nat} {a b : Value} (h : w.grownBy wr (Value.slice (some ⟨go, 0, none⟩) n cap).ownBlock) :
    w.grownBy ((wr.setCell ⟨go, k * 2, none⟩ a).setCell ⟨go, k * 2 + 1, none⟩ b) (some go) := by
  have h0 : w.grownBy wr (some go) := h
  have h1 := only_setCell h0 (p := ⟨go, k * 2, none⟩) (.inl rfl) a
  exact only_setCell h1 (p := ⟨go, k * 2 + 1, none⟩) (.inl rfl) b
end Go.Proofs.Ytbhkjeicogjfbaa
