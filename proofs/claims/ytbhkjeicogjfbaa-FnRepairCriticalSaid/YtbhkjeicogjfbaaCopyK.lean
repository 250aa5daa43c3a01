/- copy, clear and append of zero values on slices of the call's own whose elements have s cells. Conditions: each is said at its theorem. -/
import Derived.Test.YtbhkjeicogjfbaaApp
import Derived.Lib.Overlaps
import Derived.Lib.AppendZerosOnto
import Derived.Laws.IdiomCopy
namespace Go.Proofs.Ytbhkjeicogjfbaa
open Go.RowKit

section
variable {P : Program}
theorem run_copyK (w : World) (dT sT ty elem : TypeId) (size b o dLen dCap : Nat) (a : Addr) (sLen sCap : Nat) (cs : List Value)
    (hu : P.underlying dT = some (.slice elem)) (hs : (P.info? elem).map (·.size) = some size) (hn : cs.length = Nat.min sLen dLen * size)
    (hsrc : ∀ j v, cs[j]? = some v → w.cell? (a.add j) = some v) (hc : ∀ j, j < cs.length → (w.cell? ⟨b, o + j, none⟩).isSome = true) (hf : ∀ j, j < cs.length → w.frozen? ⟨b, o + j, none⟩ = false) (h1 : ∀ v ∈ cs, v.oneCell' = true) :
    (Builtin.copy_ #[dT, sT] ty #[.slice (some ⟨b, o, none⟩) dLen dCap, .slice (some a) sLen sCap]).run P w = .ok (goInt (Nat.min sLen dLen)) (w.setCells b o cs) := by
  have hl := run_loadCells_list (P := P) w a cs hsrc
  have hst := run_storeCells_cells (P := P) b o cs 0 w (by simpa using hc) (by simpa using hf) h1
  cases hq : P.info? elem with
  | none => simp [hq] at hs
  | some i =>
    have hi : i.size = size := by simpa [hq] using hs
    simp [Builtin.copy_, run_underlying hu, Builtin.lenOf, Builtin.firstCells, sizeOf, typeInfo, hq, hi, ← hn, hl, hst]
/-- clear(s) of n elements. -/
theorem run_clearK (w : World) (t e ty : TypeId) (z : Value) (ht : P.underlying t = some (.slice e)) (hz : ∃ i, P.info? e = some i ∧ i.zero = some z) (b o n c : Nat)
    (hc : ∀ j, j < n * z.cells.size → (w.cell? ⟨b, o + j, none⟩).isSome = true) (hf : ∀ j, j < n * z.cells.size → w.frozen? ⟨b, o + j, none⟩ = false) (h1 : ∀ v ∈ z.cells, v.oneCell' = true) (hpos : 0 < z.cells.size) :
    (Builtin.clear_ #[t] ty #[.slice (some ⟨b, o, none⟩) n c]).run P w = .ok (.tuple #[]) (w.setCells b o (Builtin.zeroCells z.cells n).toList) := by
  obtain ⟨i, hi, hiz⟩ := hz
  have hl : (Builtin.zeroCells z.cells n).toList.length = n * z.cells.size := by simp [Builtin.zeroCells]
  have hone : ∀ v ∈ (Builtin.zeroCells z.cells n).toList, v.oneCell' = true := by
    intro v hv
    simp only [Builtin.zeroCells, Array.toList_map, List.mem_map] at hv
    obtain ⟨k, _, rfl⟩ := hv
    have hk : k % z.cells.size < z.cells.size := Nat.mod_lt _ hpos
    exact h1 _ (by rw [getElem!_pos z.cells _ hk]; exact Array.getElem_mem hk)
  have hst := run_storeCells_cells (P := P) b o (Builtin.zeroCells z.cells n).toList 0 w (by rw [hl]; simpa using hc) (by rw [hl]; simpa using hf) hone
  cases n with
  | zero =>
    have h0 : (Builtin.zeroCells z.cells 0).toList = [] := List.eq_nil_of_length_eq_zero (by rw [hl]; simp)
    rw [h0]
    simp [Builtin.clear_, run_underlying ht, World.setCells]
  | succ n =>
    simp at hst
    simp [Builtin.clear_, run_underlying ht, zeroValue, typeInfo, hi, hiz, hst]
end

theorem wp_copy_r {P : Program} (w : World) {o : Oper} {a : Act} {K : Act → World → Prop} {Q : Exit → Act → World → Prop} (d s : Operand) (t t' : TypeId)
    (ho : o.op = .call { callee := .builtin .copy, args := #[d, s], argTypes := #[t, t'] }) (v u : Value) (hd : a.eval d = v) (hs : a.eval s = u) {v' : Value} {w' : World}
    (hr : (Builtin.copy_ #[t, t'] o.type #[v, u]).run P w = .ok v' w') (h : K (a.put o.dst v') w') : o.wp P a w K Q := by
  unfold Oper.wp execOp
  simp only [ho, resolve, invoke, builtin, Sem.run_bind, Sem.run_pure, Result.andThen_ok, List.map_toArray, List.map_cons, List.map_nil, hd, hs, hr]
  exact h
theorem wpList_copy_r {P : Program} (w : World) {ops : Array Oper} {rest : List Oper} {o : Oper} {a : Act} {Q : Exit → Act → World → Prop} (hgd : o.guard = none) (d s : Operand) (t t' : TypeId)
    (ho : o.op = .call { callee := .builtin .copy, args := #[d, s], argTypes := #[t, t'] }) (v u : Value) (hd : a.eval d = v) (hs : a.eval s = u) {v' : Value} {w' : World}
    (hr : (Builtin.copy_ #[t, t'] o.type #[v, u]).run P w = .ok v' w') (h : wpList P ops Q rest (a.put o.dst v') w') : wpList P ops Q (o :: rest) a w :=
  wpList_plain hgd fun _ hK => wp_copy_r w d s t t' ho v u hd hs hr (hK _ _ h)
theorem step_copy_r {P : Program} {ops : Array Oper} {o : Oper} {a : Act} {w : World} {K : Act → World → Prop} {Q : Exit → Act → World → Prop} {E : Prop}
    (hg : o.guard = none) (d x : Operand) (dT sT : TypeId) (hop : o.op = Op.call { callee := Callee.builtin Builtin.copy, args := #[d, x], argTypes := #[dT, sT] })
    (v u : Value) (hd : a.eval d = v) (hx : a.eval x = u) {v' : Value} {w' : World} (hr : (Builtin.copy_ #[dT, sT] o.type #[v, u]).run P w = .ok v' w') (hK : K (a.put o.dst v') w') :
    if Region.wanted o (yielded ops a.tmps) = true then Oper.wp P o a w K Q else E := by
  have hw : Region.wanted o (yielded ops a.tmps) = true := by simp [Region.wanted, hg]
  rw [if_pos hw]
  exact wp_copy_r w d x dT sT hop v u hd hx hr hK
theorem wp_append_r {P : Program} (w : World) {o : Oper} {a : Act} {K : Act → World → Prop} {Q : Exit → Act → World → Prop} (d s : Operand) (t t' : TypeId)
    (ho : o.op = .call { callee := .builtin .append, args := #[d, s], argTypes := #[t, t'] }) (v u : Value) (hd : a.eval d = v) (hs : a.eval s = u) {v' : Value} {w' : World}
    (hr : (Builtin.append_ #[t, t'] o.type #[v, u]).run P w = .ok v' w') (h : K (a.put o.dst v') w') : o.wp P a w K Q := by
  unfold Oper.wp execOp
  simp only [ho, resolve, invoke, builtin, Sem.run_bind, Sem.run_pure, Result.andThen_ok, List.map_toArray, List.map_cons, List.map_nil, hd, hs, hr]
  exact h
theorem wpList_append_r {P : Program} (w : World) {ops : Array Oper} {rest : List Oper} {o : Oper} {a : Act} {Q : Exit → Act → World → Prop} (hgd : o.guard = none) (d s : Operand) (t t' : TypeId)
    (ho : o.op = .call { callee := .builtin .append, args := #[d, s], argTypes := #[t, t'] }) (v u : Value) (hd : a.eval d = v) (hs : a.eval s = u) {v' : Value} {w' : World}
    (hr : (Builtin.append_ #[t, t'] o.type #[v, u]).run P w = .ok v' w') (h : wpList P ops Q rest (a.put o.dst v') w') : wpList P ops Q (o :: rest) a w :=
  wpList_plain hgd fun _ hK => wp_append_r w d s t t' ho v u hd hs hr (hK _ _ h)
theorem step_append_r {P : Program} {ops : Array Oper} {o : Oper} {a : Act} {w : World} {K : Act → World → Prop} {Q : Exit → Act → World → Prop} {E : Prop}
    (hg : o.guard = none) (d x : Operand) (dT sT : TypeId) (hop : o.op = Op.call { callee := Callee.builtin Builtin.append, args := #[d, x], argTypes := #[dT, sT] })
    (v u : Value) (hd : a.eval d = v) (hx : a.eval x = u) {v' : Value} {w' : World} (hr : (Builtin.append_ #[dT, sT] o.type #[v, u]).run P w = .ok v' w') (hK : K (a.put o.dst v') w') :
    if Region.wanted o (yielded ops a.tmps) = true then Oper.wp P o a w K Q else E := by
  have hw : Region.wanted o (yielded ops a.tmps) = true := by simp [Region.wanted, hg]
  rw [if_pos hw]
  exact wp_append_r w d x dT sT hop v u hd hx hr hK
theorem wp_clear_r {P : Program} (w : World) {o : Oper} {a : Act} {K : Act → World → Prop} {Q : Exit → Act → World → Prop} (d : Operand) (t : TypeId)
    (ho : o.op = .call { callee := .builtin .clear, args := #[d], argTypes := #[t] }) (v : Value) (hd : a.eval d = v) {v' : Value} {w' : World}
    (hr : (Builtin.clear_ #[t] o.type #[v]).run P w = .ok v' w') (h : K (a.put o.dst v') w') : o.wp P a w K Q := by
  unfold Oper.wp execOp
  simp only [ho, resolve, invoke, builtin, Sem.run_bind, Sem.run_pure, Result.andThen_ok, List.map_toArray, List.map_cons, List.map_nil, hd, hr]
  exact h
theorem wpList_clear_r {P : Program} (w : World) {ops : Array Oper} {rest : List Oper} {o : Oper} {a : Act} {Q : Exit → Act → World → Prop} (hgd : o.guard = none) (d : Operand) (t : TypeId)
    (ho : o.op = .call { callee := .builtin .clear, args := #[d], argTypes := #[t] }) (v : Value) (hd : a.eval d = v) {v' : Value} {w' : World}
    (hr : (Builtin.clear_ #[t] o.type #[v]).run P w = .ok v' w') (h : wpList P ops Q rest (a.put o.dst v') w') : wpList P ops Q (o :: rest) a w :=
  wpList_plain hgd fun _ hK => wp_clear_r w d t ho v hd hr (hK _ _ h)

/-! ### Runs of stores into an owned row -/
def setL (xs : List Value) : Nat → List Value → List Value
  | _, [] => xs
  | o, v :: r => setL (xs.set o v) (o + 1) r
theorem setL_out : ∀ (vs xs : List Value) (o : Nat), xs.length ≤ o → setL xs o vs = xs
  | [], _, _, _ => rfl
  | v :: r, xs, o, h => by rw [setL, List.set_eq_of_length_le h]; exact setL_out r xs (o + 1) (by omega)
theorem setL_mid : ∀ (V B A C : List Value) (o : Nat), o = A.length → V.length = B.length → setL (A ++ B ++ C) o V = A ++ V ++ C
  | [], B, A, C, o, _, hB => by rw [List.eq_nil_of_length_eq_zero hB.symm]; rfl
  | v :: V, B, A, C, o, hA, hB => by
    obtain ⟨b, B, rfl⟩ : ∃ b B', B = b :: B' := by
      cases B with
      | nil => simp at hB
      | cons b B => exact ⟨b, B, rfl⟩
    rw [setL]
    have h1 : (A ++ b :: B ++ C).set o v = (A ++ [v]) ++ B ++ C := by
      subst hA
      simp
    rw [h1, setL_mid V B (A ++ [v]) C (o + 1) (by simp [hA]) (by simpa using hB)]
    simp
theorem own_cells {base size g n cap : Nat} {e : TypeId} : ∀ (vs : List Value) (o : Nat) (w : World) (xs : List Value), w.ownsRow base e size (.slice (some ⟨g, 0, none⟩) n cap) n xs →
    (w.setCells g o vs).ownsRow base e size (.slice (some ⟨g, 0, none⟩) n cap) n (setL xs o vs) ∧ w.grownBy (w.setCells g o vs) (some g)
  | [], o, w, xs, h => ⟨h, rfl, rfl, rfl, Nat.le_refl _, fun _ _ _ => rfl⟩
  | v :: r, o, w, xs, h => by
    obtain ⟨h1, h2⟩ := World.ownsRow.stored h o v
    obtain ⟨h3, h4⟩ := own_cells r (o + 1) _ _ h1
    exact ⟨h3, h4.os.trans h2.os, h4.tape.trans h2.tape, h4.output.trans h2.output, Nat.le_trans h2.size h4.size, fun i hi hne => (h4.block i (Nat.lt_of_lt_of_le hi h2.size) hne).trans (h2.block i hi hne)⟩
/-- The same row, its first m elements alone or as many more as it has room for. -/
theorem own_more {base size g n cap : Nat} {e : TypeId} {w : World} {xs : List Value} (h : w.ownsRow base e size (.slice (some ⟨g, 0, none⟩) n cap) n xs) {m : Nat} (hm : m ≤ cap) :
    ∃ ys, w.ownsRow base e size (.slice (some ⟨g, 0, none⟩) m cap) m ys ∧ (m ≤ n → ys = xs.take (m * size)) ∧ (n ≤ m → ∃ z, ys = xs ++ z ∧ z.length = (m - n) * size) := by
  rcases h.2 with ⟨h', _⟩ | ⟨g', cap', cur, h', hb, hg, hnc, hcm, hcs, htake⟩
  · simp at h'
  · simp only [Value.slice.injEq, Option.some.injEq, Addr.mk.injEq, and_true, true_and] at h'
    obtain ⟨rfl, rfl⟩ := h'
    have hlen : (cur.toList.take (m * size)).length = m * size := by
      rw [List.length_take, Array.length_toList, hcs]
      exact Nat.min_eq_left (Nat.mul_le_mul_right _ hm)
    refine ⟨cur.toList.take (m * size), ⟨hlen, .inr ⟨g, cap, cur, rfl, hb, hg, hm, hcm, hcs, rfl⟩⟩, fun hmn => ?_, fun hnm => ?_⟩
    · rw [← htake, List.take_take, Nat.min_eq_left (Nat.mul_le_mul_right _ hmn)]
    · refine ⟨(cur.toList.take (m * size)).drop (n * size), ?_, by rw [List.length_drop, hlen, Nat.sub_mul]⟩
      rw [← htake]
      have h1 : cur.toList.take (n * size) = (cur.toList.take (m * size)).take (n * size) := by rw [List.take_take, Nat.min_eq_left (Nat.mul_le_mul_right _ hnm)]
      rw [h1, List.take_append_drop]
theorem own_slots {base size g n cap : Nat} {e : TypeId} {w : World} {xs : List Value} (h : w.ownsRow base e size (.slice (some ⟨g, 0, none⟩) n cap) n xs) (j : Nat) (hj : j < cap * size) : (w.cell? ⟨g, j, none⟩).isSome = true := by
  rcases h.2 with ⟨h', _⟩ | ⟨g', cap', cur, h', _, hg, _, _, hcs, htake⟩
  · simp at h'
  · simp only [Value.slice.injEq, Option.some.injEq, Addr.mk.injEq, and_true, true_and] at h'
    obtain ⟨rfl, rfl⟩ := h'
    rw [cell_of_row w g j cur e (0, 0) hg, Array.getElem?_eq_getElem (by omega)]
    rfl
theorem flat_take {α : Type} {enc : α → List Value} {s : Nat} (hs : ∀ x, (enc x).length = s) (l : List α) (i : Nat) : (l.flatMap enc).take (i * s) = (l.take i).flatMap enc := by
  induction l generalizing i with
  | nil => simp
  | cons x l ih =>
    cases i with
    | zero => simp
    | succ i =>
      rw [List.take_succ_cons, List.flatMap_cons, List.flatMap_cons, List.take_append, List.take_of_length_le (by rw [hs, Nat.succ_mul]; omega), hs, show (i + 1) * s - s = i * s from by rw [Nat.succ_mul]; omega, ih]
theorem flat_drop {α : Type} {enc : α → List Value} {s : Nat} (hs : ∀ x, (enc x).length = s) (l : List α) (i : Nat) : (l.flatMap enc).drop (i * s) = (l.drop i).flatMap enc := by
  induction l generalizing i with
  | nil => simp
  | cons x l ih =>
    cases i with
    | zero => simp
    | succ i =>
      rw [List.drop_succ_cons, List.flatMap_cons, List.drop_append, List.drop_of_length_le (by rw [hs, Nat.succ_mul]; omega), hs, show (i + 1) * s - s = i * s from by rw [Nat.succ_mul]; omega, ih]
      rfl
/-- In place: the tail moved up by one, then the element laid into the gap. -/
theorem ins_shift {α : Type} {enc : α → List Value} {s : Nat} (hs : ∀ x, (enc x).length = s) (l : List α) (x : α) (z : List Value) (hz : z.length = s) (i : Nat) (hi : i ≤ l.length) :
    setL (setL (l.flatMap enc ++ z) ((i + 1) * s) ((l.drop i).flatMap enc)) (i * s) (enc x) = (l.take i ++ x :: l.drop i).flatMap enc := by
  have hA := flat_len hs (l.take i)
  rw [List.length_take, Nat.min_eq_left hi] at hA
  have hD := flat_len hs (l.drop i)
  rw [List.length_drop] at hD
  have e0 : l.flatMap enc ++ z = (l.take i).flatMap enc ++ ((l.drop i).flatMap enc ++ z) := by
    rw [← List.append_assoc, ← List.flatMap_append, List.take_append_drop]
  have hT : ((l.drop i).flatMap enc ++ z).length = s + (l.length - i) * s := by rw [List.length_append, hD, hz]; omega
  obtain ⟨X, hX⟩ : ∃ X, X = ((l.drop i).flatMap enc ++ z).take s := ⟨_, rfl⟩
  obtain ⟨Y, hY⟩ : ∃ Y, Y = ((l.drop i).flatMap enc ++ z).drop s := ⟨_, rfl⟩
  have hXl : X.length = s := by rw [hX, List.length_take, hT]; omega
  have hYl : Y.length = (l.length - i) * s := by rw [hY, List.length_drop, hT]; omega
  have e1 : l.flatMap enc ++ z = ((l.take i).flatMap enc ++ X) ++ Y ++ [] := by
    rw [e0, hX, hY, List.append_nil, List.append_assoc, List.take_append_drop]
  rw [e1, setL_mid _ Y _ [] _ (by rw [List.length_append, hA, hXl, Nat.succ_mul]) (by rw [hD, hYl]), List.append_nil, setL_mid _ X _ _ _ hA.symm (by rw [hs, hXl])]
  rw [List.flatMap_append, List.flatMap_cons, List.append_assoc]
/-- A new row: the head, then zero values; the element and the tail laid over them. -/
theorem ins_grow {α : Type} {enc : α → List Value} {s : Nat} (hs : ∀ x, (enc x).length = s) (l : List α) (x : α) (z : List Value) (i : Nat) (hi : i ≤ l.length) (hz : z.length = (l.length + 1 - i) * s) :
    setL (setL ((l.take i).flatMap enc ++ z) (i * s) (enc x)) ((i + 1) * s) ((l.drop i).flatMap enc) = (l.take i ++ x :: l.drop i).flatMap enc := by
  have hA := flat_len hs (l.take i)
  rw [List.length_take, Nat.min_eq_left hi] at hA
  have hD := flat_len hs (l.drop i)
  rw [List.length_drop] at hD
  have hzz : z.length = s + (l.length - i) * s := by rw [hz, show l.length + 1 - i = (l.length - i) + 1 from by omega, Nat.succ_mul]; omega
  have e1 : (l.take i).flatMap enc ++ z = (l.take i).flatMap enc ++ z.take s ++ z.drop s := by rw [List.append_assoc, List.take_append_drop]
  rw [e1, setL_mid _ (z.take s) _ _ _ hA.symm (by rw [hs, List.length_take]; omega)]
  have e2 : (l.take i).flatMap enc ++ enc x ++ z.drop s = ((l.take i).flatMap enc ++ enc x) ++ z.drop s ++ [] := by rw [List.append_nil]
  rw [e2, setL_mid _ (z.drop s) _ [] _ (by rw [List.length_append, hA, hs, Nat.succ_mul]) (by rw [hD, List.length_drop]; omega), List.append_nil]
  rw [List.flatMap_append, List.flatMap_cons, List.append_assoc]
section
variable {α : Type} {enc : α → List Value} {e : TypeId} {s base g n cap : Nat} {w : World} {l : List α}
theorem Own.cut (hs : ∀ x, (enc x).length = s) (h : Own enc e s w base (.slice (some ⟨g, 0, none⟩) n cap) l) (hn : n = l.length) {k : Nat} (hk : k ≤ n) : Own enc e s w base (.slice (some ⟨g, 0, none⟩) k cap) (l.take k) := by
  subst hn
  have hc : l.length ≤ cap := by
    obtain ⟨A, c, h1, h2, _⟩ := h.lit
    injection h1 with _ _ h1
    subst h1
    exact h2
  obtain ⟨ys, h1, h2, _⟩ := own_more h (Nat.le_trans hk hc)
  have h3 := h2 hk
  subst h3
  unfold Own
  rw [flat_take hs] at h1
  rw [List.length_take, Nat.min_eq_left hk]
  exact h1
theorem Own.caps (h : Own enc e s w base (.slice (some ⟨g, 0, none⟩) n cap) l) : n = l.length ∧ n ≤ cap ∧ cap ≤ maxLen := by
  obtain ⟨A, c, h1, h2, h3⟩ := h.lit
  injection h1 with _ h0 h1
  subst h1
  exact ⟨h0, by omega, h3⟩
/-- A store of cells behind the elements. -/
theorem Own.behind (h : Own enc e s w base (.slice (some ⟨g, 0, none⟩) n cap) l) (hn : n = l.length) (o : Nat) (vs : List Value) (ho : l.length * s ≤ o) : Own enc e s (w.setCells g o vs) base (.slice (some ⟨g, 0, none⟩) n cap) l ∧ w.grownBy (w.setCells g o vs) (some g) := by
  subst hn
  obtain ⟨h1, h2⟩ := own_cells vs o w _ h
  rw [setL_out _ _ _ (by rw [h.1]; exact ho)] at h1
  exact ⟨h1, h2⟩
theorem grown_trans {w w' w'' : World} {row : Option Nat} (h : w.grownBy w' row) (h' : w'.grownBy w'' row) : w.grownBy w'' row :=
  ⟨h'.os.trans h.os, h'.tape.trans h.tape, h'.output.trans h.output, Nat.le_trans h.size h'.size, fun i hi hne => (h'.block i (Nat.lt_of_lt_of_le hi h.size) hne).trans (h.block i hi hne)⟩
end
end Go.Proofs.Ytbhkjeicogjfbaa
