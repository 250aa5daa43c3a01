/- append, copy and clear on slices of the call's own, in the words Own and SlR. Conditions: each is said at its theorem. -/
import Derived.Test.YtbhkjeicogjfbaaBase2
import Derived.Maps.AppendAt
import Derived.Deep.AppendLies
import Derived.RegionTactic
import Derived.OwnWalk
import Derived.Deep.RegionHeld3
namespace Go.Proofs.Ytbhkjeicogjfbaa
open Go.RowKit

/-- What is known of a slice type t of elements e, each s cells. -/
structure SlInf (P : Program) (t e : TypeId) {α : Type} (enc : α → List Value) (s : Nat) : Prop where
  under : P.underlying t = some (.slice e)
  info : ∃ i z, P.info? e = some i ∧ i.zero = some z ∧ i.size = s ∧ i.bytes ≤ 64 ∧ z.cells.size = s
  pos : 0 < s
  len : ∀ x, (enc x).length = s
  one : ∀ x, ∀ u ∈ enc x, u.oneCell' = true

section
variable {P : Program} {t e : TypeId} {α : Type} {enc : α → List Value} {s base B : Nat} {w : World} {v u : Value} {l m : List α}
theorem append_nil_run (I : SlInf P t e enc s) (h : Own enc e s w base v l) (c : Nat) (ty : TypeId) : (Builtin.append_ #[t, t] ty #[v, .slice none 0 c]).run P w = .ok v w := by
  obtain ⟨i, z, hi, _⟩ := I.info
  rcases h.2 with ⟨rfl, hn⟩ | ⟨g, cap, cur, rfl, _, _, hnc, _⟩
  · simp [Builtin.append_, run_underlying I.under, sizeOf, typeInfo, hi, Builtin.lenOf, Builtin.firstCells]
  · simp [Builtin.append_, run_underlying I.under, sizeOf, typeInfo, hi, Builtin.lenOf, Builtin.firstCells, hnc, storeCells]
theorem own_app (h : w.ownsRow base e s v (l.length + m.length) (l.flatMap enc ++ m.flatMap enc)) : Own enc e s w base v (l ++ m) := by
  unfold Own
  simpa using h
theorem append_run (I : SlInf P t e enc s) (h : Own enc e s w base v l) (hm : SlR enc s w B u m) (hn : l.length + m.length ≤ 2097152) (hb : base ≤ w.heap.size) (ty : TypeId) :
    ∃ A cap w', (Builtin.append_ #[t, t] ty #[v, u]).run P w = .ok (.slice A (l.length + m.length) cap) w' ∧ Own enc e s w' base (.slice A (l.length + m.length) cap) (l ++ m) ∧ w.grownBy w' v.ownBlock ∧
      ((Value.slice A (l.length + m.length) cap).ownBlock = v.ownBlock ∨ (Value.slice A (l.length + m.length) cap).ownBlock = some w.heap.size) := by
  obtain ⟨i, z, hi, hz, hs, hby, hzs⟩ := I.info
  obtain ⟨A, c, rfl, hc, hr⟩ := hm
  have form : ∀ {v' : Value} {W : World}, Own enc e s W base v' (l ++ m) → ∃ A cap, v' = .slice A (l.length + m.length) cap := by
    intro v' W h
    rcases h.2 with ⟨h1, h2⟩ | ⟨g, cap, cur, h1, _⟩
    · exact ⟨none, 0, by rw [h1]; congr 1; simpa using h2.symm⟩
    · exact ⟨_, cap, by rw [h1]; congr 1; simp⟩
  cases A with
  | none =>
    have hm : m = [] := by
      apply List.eq_nil_of_length_eq_zero
      rcases Nat.eq_zero_or_pos m.length with h | h
      · exact h
      · obtain ⟨b, off, h1, _⟩ := hr h; cases h1
    subst hm
    have h' : Own enc e s w base v (l ++ []) := by simpa using h
    obtain ⟨A, cap, rfl⟩ := form h'
    exact ⟨A, cap, w, append_nil_run I h c ty, h', ⟨rfl, rfl, rfl, Nat.le_refl _, fun _ _ _ => rfl⟩, .inl rfl⟩
  | some ad =>
    have hcells : ∀ j x, (m.flatMap enc)[j]? = some x → w.cell? (ad.add j) = some x := by
      intro j x hx
      have hj : 0 < m.length := by
        rcases Nat.eq_zero_or_pos m.length with h | h
        · rw [List.eq_nil_of_length_eq_zero h] at hx; simp at hx
        · exact h
      obtain ⟨b, off, h1, _, hrow⟩ := hr hj
      injection h1 with h1
      subst h1
      exact hrow.flat I.len j x hx
    have hs0 := I.pos
    obtain ⟨v', w', hrun, h2, h3, _, h5⟩ := run_append_own_at (P := P) (w := w) base t ty e i z s i.bytes I.under hi hz hs rfl hzs hs0 v l.length (l.flatMap enc) h ad m.length c (m.flatMap enc) (flat_len I.len m) hcells (flat_one I.one m)
      (by unfold maxLen; omega) (Nat.le_trans (Nat.mul_le_mul_left _ hby) (by omega)) hb
    have h2' := own_app h2
    obtain ⟨A, cap, rfl⟩ := form h2'
    exact ⟨A, cap, w', hrun, h2', h3, h5⟩

theorem wp_app {o : Oper} {a : Act} {K : Act → World → Prop} {Q : Exit → Act → World → Prop} (I : SlInf P t e enc s) (x y : Operand)
    (ho : o.op = .call { callee := .builtin .append, args := #[x, y], argTypes := #[t, t] }) (v u : Value) (hx : a.eval x = v) (hy : a.eval y = u) (base B : Nat) (l m : List α)
    (h : Own enc e s w base v l) (hm : SlR enc s w B u m) (hn : l.length + m.length ≤ 2097152) (hb : base ≤ w.heap.size)
    (hK : ∀ A cap w', Own enc e s w' base (.slice A (l.length + m.length) cap) (l ++ m) → w.grownBy w' v.ownBlock → ((Value.slice A (l.length + m.length) cap).ownBlock = v.ownBlock ∨ (Value.slice A (l.length + m.length) cap).ownBlock = some w.heap.size) →
      K (a.put o.dst (.slice A (l.length + m.length) cap)) w') : o.wp P a w K Q := by
  obtain ⟨A, cap, w', hrun, h2, h3, h4⟩ := append_run I h hm hn hb o.type
  unfold Oper.wp execOp
  simp only [ho, resolve, invoke, builtin, Sem.run_bind, Sem.run_pure, Result.andThen_ok, List.map_toArray, List.map_cons, List.map_nil, hx, hy, hrun]
  exact hK A cap w' h2 h3 h4
theorem wpList_app {ops : Array Oper} {rest : List Oper} {o : Oper} {a : Act} {Q : Exit → Act → World → Prop} (hg : o.guard = none) (I : SlInf P t e enc s) (x y : Operand)
    (ho : o.op = .call { callee := .builtin .append, args := #[x, y], argTypes := #[t, t] }) (v u : Value) (hx : a.eval x = v) (hy : a.eval y = u) (base B : Nat) (l m : List α)
    (h : Own enc e s w base v l) (hm : SlR enc s w B u m) (hn : l.length + m.length ≤ 2097152) (hb : base ≤ w.heap.size)
    (hK : ∀ A cap w', Own enc e s w' base (.slice A (l.length + m.length) cap) (l ++ m) → w.grownBy w' v.ownBlock → ((Value.slice A (l.length + m.length) cap).ownBlock = v.ownBlock ∨ (Value.slice A (l.length + m.length) cap).ownBlock = some w.heap.size) →
      wpList P ops Q rest (a.put o.dst (.slice A (l.length + m.length) cap)) w') : wpList P ops Q (o :: rest) a w :=
  wpList_plain hg fun _ hk => wp_app I x y ho v u hx hy base B l m h hm hn hb fun A cap w' h2 h3 h4 => hk _ _ (hK A cap w' h2 h3 h4)
theorem step_app {ops : Array Oper} {o : Oper} {a : Act} {K : Act → World → Prop} {Q : Exit → Act → World → Prop} {E : Prop} (hg : o.guard = none) (I : SlInf P t e enc s) (x y : Operand)
    (ho : o.op = .call { callee := .builtin .append, args := #[x, y], argTypes := #[t, t] }) (v u : Value) (hx : a.eval x = v) (hy : a.eval y = u) (base B : Nat) (l m : List α)
    (h : Own enc e s w base v l) (hm : SlR enc s w B u m) (hn : l.length + m.length ≤ 2097152) (hb : base ≤ w.heap.size)
    (hK : ∀ A cap w', Own enc e s w' base (.slice A (l.length + m.length) cap) (l ++ m) → w.grownBy w' v.ownBlock → ((Value.slice A (l.length + m.length) cap).ownBlock = v.ownBlock ∨ (Value.slice A (l.length + m.length) cap).ownBlock = some w.heap.size) →
      K (a.put o.dst (.slice A (l.length + m.length) cap)) w') : if Region.wanted o (yielded ops a.tmps) = true then Oper.wp P o a w K Q else E := by
  have hw : Region.wanted o (yielded ops a.tmps) = true := by simp [Region.wanted, hg]
  rw [if_pos hw]
  exact wp_app I x y ho v u hx hy base B l m h hm hn hb hK
end

theorem own_types {α β : Type} {enc : α → List Value} {enc' : β → List Value} {e e' : TypeId} {s s' base base' : Nat} {w : World} {v v' : Value} {l : List α} {l' : List β} (h : Own enc e s w base v l) (h' : Own enc' e' s' w base' v' l') (hne : e ≠ e') :
    ∀ q, v.ownBlock = some q → v'.ownBlock ≠ some q := by
  intro q h1 h2
  rcases h.2 with ⟨rfl, _⟩ | ⟨g, cap, cur, rfl, _, hh, _⟩
  · simp [Value.ownBlock] at h1
  · rcases h'.2 with ⟨rfl, _⟩ | ⟨g', cap', cur', rfl, _, hh', _⟩
    · simp [Value.ownBlock] at h2
    · simp [Value.ownBlock] at h1 h2
      subst h1; subst h2
      rw [hh] at hh'
      injection hh' with hh'
      injection hh' with _ ht
      exact hne ht
theorem own_grown {α : Type} {enc : α → List Value} {e : TypeId} {s base : Nat} {w w' : World} {v : Value} {l : List α} {row : Option Nat} (h : Own enc e s w base v l) (hg : w.grownBy w' row) (hne : ∀ q, v.ownBlock = some q → row ≠ some q) : Own enc e s w' base v l :=
  h.keep fun q hq => hg.block q (World.ownsRow.lt h q hq).2 fun he => hne q hq he.symm
/-- append beside another slice of the call's own, of another element type. -/
theorem step_app2 {P : Program} {t e e2 : TypeId} {α β : Type} {enc : α → List Value} {enc2 : β → List Value} {s s2 B : Nat} {w : World} {ops : Array Oper} {o : Oper} {a : Act} {K : Act → World → Prop} {Q : Exit → Act → World → Prop} {E : Prop} (hg : o.guard = none)
    (I : SlInf P t e enc s) (x y : Operand) (ho : o.op = .call { callee := .builtin .append, args := #[x, y], argTypes := #[t, t] }) (v u v2 : Value) (hx : a.eval x = v) (hy : a.eval y = u) (w0 : World) (l m : List α) (l2 : List β) (hne : e2 ≠ e)
    (h : Own enc e s w w0.heap.size v l) (h2 : Own enc2 e2 s2 w w0.heap.size v2 l2) (hb : Below w0.heap.size w0 w) (hm : SlR enc s w B u m) (hn : l.length + m.length ≤ 2097152)
    (hK : ∀ A cap w', Own enc e s w' w0.heap.size (.slice A (l.length + m.length) cap) (l ++ m) → Own enc2 e2 s2 w' w0.heap.size v2 l2 → Below w0.heap.size w0 w' →
      K (a.put o.dst (.slice A (l.length + m.length) cap)) w') : if Region.wanted o (yielded ops a.tmps) = true then Oper.wp P o a w K Q else E :=
  step_app hg I x y ho v u hx hy w0.heap.size B l m h hm hn hb.size fun A cap w' h3 h4 _ =>
    hK A cap w' h3 (own_grown h2 h4 (own_types h2 h hne)) (hb.grown h4 hb.size fun q hq => (World.ownsRow.lt h q hq).1)
theorem step_appN {P : Program} {t e : TypeId} {α : Type} {enc : α → List Value} {s B : Nat} {w : World} {ops : Array Oper} {o : Oper} {a : Act} {K : Act → World → Prop} {Q : Exit → Act → World → Prop} {E : Prop} (hg : o.guard = none)
    (I : SlInf P t e enc s) (x y : Operand) (ho : o.op = .call { callee := .builtin .append, args := #[x, y], argTypes := #[t, t] }) (v u : Value) (hx : a.eval x = v) (hy : a.eval y = u) (w0 : World) (l m l' : List α) (N : Nat) (hl : l' = l ++ m) (hN : l'.length = N)
    (h : Own enc e s w w0.heap.size v l) (hb : Below w0.heap.size w0 w) (hm : SlR enc s w B u m) (hn : N ≤ 2097152)
    (hK : ∀ A cap w', Own enc e s w' w0.heap.size (.slice A N cap) l' → w.grownBy w' v.ownBlock → Below w0.heap.size w0 w' → K (a.put o.dst (.slice A N cap)) w') : if Region.wanted o (yielded ops a.tmps) = true then Oper.wp P o a w K Q else E := by
  subst hl
  rw [List.length_append] at hN
  subst hN
  exact step_app hg I x y ho v u hx hy w0.heap.size B l m h hm hn hb.size fun A cap w' h3 h4 _ => hK A cap w' h3 h4 (hb.grown h4 hb.size fun q hq => (World.ownsRow.lt h q hq).1)
theorem wpList_appN {P : Program} {t e : TypeId} {α : Type} {enc : α → List Value} {s B : Nat} {w : World} {ops : Array Oper} {rest : List Oper} {o : Oper} {a : Act} {Q : Exit → Act → World → Prop} (hg : o.guard = none)
    (I : SlInf P t e enc s) (x y : Operand) (ho : o.op = .call { callee := .builtin .append, args := #[x, y], argTypes := #[t, t] }) (v u : Value) (hx : a.eval x = v) (hy : a.eval y = u) (w0 : World) (l m l' : List α) (N : Nat) (hl : l' = l ++ m) (hN : l'.length = N)
    (h : Own enc e s w w0.heap.size v l) (hb : Below w0.heap.size w0 w) (hm : SlR enc s w B u m) (hn : N ≤ 2097152)
    (hK : ∀ A cap w', Own enc e s w' w0.heap.size (.slice A N cap) l' → w.grownBy w' v.ownBlock → Below w0.heap.size w0 w' → wpList P ops Q rest (a.put o.dst (.slice A N cap)) w') : wpList P ops Q (o :: rest) a w := by
  subst hl
  rw [List.length_append] at hN
  subst hN
  exact wpList_app hg I x y ho v u hx hy w0.heap.size B l m h hm hn hb.size fun A cap w' h3 h4 _ => hK A cap w' h3 h4 (hb.grown h4 hb.size fun q hq => (World.ownsRow.lt h q hq).1)
theorem ownE {α : Type} {enc : α → List Value} {s base : Nat} (X : World) (e : TypeId) (hb : base ≤ X.heap.size) : Own enc e s (X.alloc (.cells #[] e)) base (.slice (some ⟨X.heap.size, 0, none⟩) 0 0) [] := (own_fresh X e).low hb

theorem Blk.new1 (X : World) (o : Obj) (t : TypeId) (cs : Array Value) : Blk ((X.alloc o).alloc (.cells cs t)) (X.heap.size + 1) t cs := by
  have h := Blk.new (X.alloc o) t cs
  simpa using h
theorem ownE1 {α : Type} {enc : α → List Value} {s base : Nat} (X : World) (o : Obj) (e : TypeId) (hb : base ≤ X.heap.size) : Own enc e s ((X.alloc o).alloc (.cells #[] e)) base (.slice (some ⟨X.heap.size + 1, 0, none⟩) 0 0) [] := by
  have h := ownE (enc := enc) (s := s) (base := base) (X.alloc o) e (by simp; omega)
  simpa using h

section
variable {α : Type} {enc : α → List Value} {s : Nat} {w : World}
/-- A block of one row, as a slice of one element. -/
theorem slr_one {g B : Nat} {t : TypeId} {cs : Array Value} {x : α} (h : Blk w g t cs) (hx : cs = (enc x).toArray) (hB : g < B) : SlR enc s w B (.slice (some ⟨g, 0, none⟩) 1 1) [x] := by
  subst hx
  refine ⟨_, 1, rfl, Nat.le_refl _, fun _ => ⟨g, 0, rfl, hB, fun i y hi j u hu => ?_⟩⟩
  match i, hi with
  | 0, hi =>
    cases hi
    rw [h.cell]
    simpa using hu
theorem slr_nil {B cap : Nat} {A : Option Addr} : SlR enc s w B (.slice A 0 cap) [] := ⟨A, cap, rfl, Nat.zero_le _, fun h => absurd h (by simp)⟩
theorem slr_nil' {B cap n : Nat} {A : Option Addr} {l : List α} (hl : l = []) (hn : n = 0) : SlR enc s w B (.slice A n cap) l := by
  subst hl; subst hn; exact slr_nil
theorem SlR.form {B : Nat} {v : Value} {l : List α} (h : SlR enc s w B v l) : ∃ A cap, v = .slice A l.length cap ∧ l.length ≤ cap := by
  obtain ⟨A, cap, h1, h2, _⟩ := h
  exact ⟨A, cap, h1, h2⟩
theorem Own.lit {e base : Nat} {v : Value} {l : List α} (h : Own enc e s w base v l) : ∃ A cap, v = .slice A l.length cap ∧ l.length ≤ cap ∧ cap ≤ maxLen := by
  rcases h.2 with ⟨h1, h2⟩ | ⟨g, cap, cur, h1, _, _, h2, h3, _⟩
  · exact ⟨none, 0, by rw [h1, h2], by omega, Nat.zero_le _⟩
  · exact ⟨_, cap, h1, h2, h3⟩
/-- A part of a slice. -/
theorem SlR.take {B : Nat} {A : Option Addr} {n cap k : Nat} {l : List α} (h : SlR enc s w B (.slice A n cap) l) (hk : k ≤ l.length) : SlR enc s w B (.slice A k cap) (l.take k) := by
  obtain ⟨A', cap', h1, h2, hr⟩ := h
  injection h1 with h1 h3 h4
  subst h1; subst h4
  have hl : (l.take k).length = k := by simp; omega
  refine ⟨A, cap, by rw [hl], by omega, fun hp => ?_⟩
  obtain ⟨b, off, rfl, hb, hc⟩ := hr (by omega)
  refine ⟨b, off, rfl, hb, fun i x hi j u hu => hc i x ?_ j u hu⟩
  rw [List.getElem?_take] at hi
  split at hi
  · exact hi
  · cases hi
theorem SlR.drop {B : Nat} {b off n cap k c : Nat} {l : List α} (h : SlR enc s w B (.slice (some ⟨b, off, none⟩) n cap) l) (hk : k ≤ l.length) (hc : l.length - k ≤ c) : SlR enc s w B (.slice (some ⟨b, off + k * s, none⟩) (l.length - k) c) (l.drop k) := by
  obtain ⟨A', cap', h1, h2, hr⟩ := h
  injection h1 with h1 h3 h4
  refine ⟨_, c, by rw [List.length_drop], by rw [List.length_drop]; exact hc, fun hp => ?_⟩
  rw [List.length_drop] at hp
  obtain ⟨b', off', h5, hb, hcell⟩ := hr (by omega)
  rw [← h1] at h5
  injection h5 with h5
  injection h5 with h5 h6
  subst h5; subst h6
  refine ⟨b, off + k * s, rfl, hb, fun i x hi j u hu => ?_⟩
  rw [List.getElem?_drop] at hi
  have := hcell (k + i) x hi j u hu
  rw [Nat.add_mul] at this
  rw [show off + k * s + i * s + j = off + (k * s + i * s) + j from by omega]
  exact this
end
end Go.Proofs.Ytbhkjeicogjfbaa
