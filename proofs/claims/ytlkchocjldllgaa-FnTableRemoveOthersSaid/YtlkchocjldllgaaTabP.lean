/- Tables in plain Lean: adding, removing, finding a route. Conditions: each is said at its theorem. -/
import Derived.Test.YtlkchocjldllgaaTabF
namespace Go.Proofs.Ytlkchocjldllgaa

theorem Rl.trans {a b c : Rt} (h : Rl a b) (h' : Rl b c) : Rl a c := by unfold Rl at *; omega
theorem Rl.irrefl (a : Rt) : ¬ Rl a a := by unfold Rl; omega
theorem Rl.asymm {a b : Rt} (h : Rl a b) : ¬ Rl b a := by unfold Rl at *; omega
/-- Two routes of one prefix and as many bits. -/
def Ky (a b : Rt) : Prop := a.pre = b.pre ∧ a.bits = b.bits
theorem Rl.ky {a b : Rt} (h : ¬ Rl a b) (h' : ¬ Rl b a) : Ky a b := by unfold Rl Ky at *; omega
theorem Ky.symm {a b : Rt} (h : Ky a b) : Ky b a := ⟨h.1.symm, h.2.symm⟩
theorem Ky.nl {a b : Rt} (h : Ky a b) : ¬ Rl a b := by unfold Rl Ky at *; omega
theorem Ky.l {a b c : Rt} (h : Ky a b) (h' : Rl b c) : Rl a c := by unfold Rl Ky at *; omega
theorem Ky.r {a b c : Rt} (h : Ky b c) (h' : Rl a b) : Rl a c := by unfold Rl Ky at *; omega

/-- The table's lists, as a valid table has them. -/
structure VL (rs : List Rt) (n : Nat) : Prop where
  rv : ∀ r ∈ rs, RV r n
  pw : rs.Pairwise Rl
theorem TV.pwi {t : Tab} (h : TV t) {i j : Nat} (hij : i < j) {p q : Rt} (hp : t.routes[i]? = some p) (hq : t.routes[j]? = some q) : Rl p q := by
  obtain ⟨m, rfl⟩ : ∃ m, j = i + 1 + m := ⟨j - (i + 1), by omega⟩
  clear hij
  induction m generalizing q with
  | zero => exact h.asc hp hq
  | succ m ih =>
    have hlt := get_lt hq
    obtain ⟨x, hx⟩ := get_some (l := t.routes) (i := i + 1 + m) (by omega)
    exact (ih hx).trans (h.asc hx (by rw [show i + 1 + m + 1 = i + 1 + (m + 1) from by omega]; exact hq))
theorem TV.vl {t : Tab} (h : TV t) : VL t.routes t.hops.length := by
  refine ⟨fun r hr => ?_, ?_⟩
  · obtain ⟨i, hi⟩ := List.mem_iff_getElem?.1 hr
    exact h.rv hi
  · rw [List.pairwise_iff_getElem]
    intro i j hi hj hij
    exact h.pwi hij (List.getElem?_eq_getElem hi) (List.getElem?_eq_getElem hj)
def HV (hs : List Int) : Prop := hs.length ≤ 4 ∧ ∀ n ∈ hs, 0 ≤ n ∧ n ≤ 7
theorem TV.hv {t : Tab} (h : TV t) : HV t.hops := ⟨h.len.1, fun n hn => by
  obtain ⟨i, hi⟩ := List.mem_iff_getElem?.1 hn
  exact h.hops i n hi⟩
theorem tv_mk {t : Tab} (hl : t.routes.length ≤ 10) (hh : HV t.hops) (h : VL t.routes t.hops.length) : TV t := by
  refine ⟨⟨hh.1, hl⟩, fun i n hi => hh.2 n (List.mem_of_getElem? hi), fun i r hr => ?_⟩
  rintro (h1 | ⟨p, h0, hp, h1⟩)
  · exact h1 (h.rv r (List.mem_of_getElem? hr))
  · have h2 := get_lt hr
    have h3 := get_lt hp
    rw [List.getElem?_eq_getElem h2] at hr
    rw [List.getElem?_eq_getElem h3] at hp
    cases hr; cases hp
    exact h1 ((List.pairwise_iff_getElem.1 h.pw) (i - 1) i h3 h2 (by omega))
theorem VL.uniq {rs : List Rt} {n : Nat} (h : VL rs n) {a b : Rt} (ha : a ∈ rs) (hb : b ∈ rs) (hk : Ky a b) : a = b := by
  obtain ⟨i, hi⟩ := List.mem_iff_getElem?.1 ha
  obtain ⟨j, hj⟩ := List.mem_iff_getElem?.1 hb
  have h2 := get_lt hi
  have h3 := get_lt hj
  rw [List.getElem?_eq_getElem h2] at hi
  rw [List.getElem?_eq_getElem h3] at hj
  cases hi; cases hj
  rcases Nat.lt_trichotomy i j with h4 | h4 | h4
  · exact absurd ((List.pairwise_iff_getElem.1 h.pw) i j h2 h3 h4) hk.nl
  · subst h4; rfl
  · exact absurd ((List.pairwise_iff_getElem.1 h.pw) j i h3 h2 h4) hk.symm.nl
/-- Two ordered lists of the same routes are one. -/
theorem pw_ext : ∀ {l m : List Rt}, l.Pairwise Rl → m.Pairwise Rl → (∀ x, x ∈ l ↔ x ∈ m) → l = m
  | [], [], _, _, _ => rfl
  | [], y :: m, _, _, h => absurd ((h y).2 (by simp)) (by simp)
  | x :: l, [], _, _, h => absurd ((h x).1 (by simp)) (by simp)
  | x :: l, y :: m, hl, hm, h => by
    obtain ⟨hl1, hl2⟩ := List.pairwise_cons.1 hl
    obtain ⟨hm1, hm2⟩ := List.pairwise_cons.1 hm
    have hxy : x = y := by
      rcases List.mem_cons.1 ((h x).1 (by simp)) with h1 | h1
      · exact h1
      · rcases List.mem_cons.1 ((h y).2 (by simp)) with h2 | h2
        · exact h2.symm
        · exact absurd (hl1 y h2) (hm1 x h1).asymm
    subst hxy
    rw [pw_ext hl2 hm2 fun z => ?_]
    constructor
    · intro hz
      rcases List.mem_cons.1 ((h z).1 (by simp [hz])) with h1 | h1
      · subst h1; exact absurd (hl1 z hz) (Rl.irrefl z)
      · exact h1
    · intro hz
      rcases List.mem_cons.1 ((h z).2 (by simp [hz])) with h1 | h1
      · subst h1; exact absurd (hm1 z hz) (Rl.irrefl z)
      · exact h1

/-! ### Adding -/
instance (a b : Rt) : Decidable (Rl a b) := by unfold Rl; infer_instance
def insL : List Rt → Rt → List Rt
  | [], r => [r]
  | x :: l, r => if Rl x r then x :: insL l r else if Rl r x then r :: x :: l else r :: l
def posR : List Rt → Rt → Nat
  | [], _ => 0
  | x :: l, r => if Rl x r then posR l r + 1 else 0
theorem posR_le (l : List Rt) (r : Rt) : posR l r ≤ l.length := by
  induction l with
  | nil => simp [posR]
  | cons x l ih => unfold posR; split <;> simp <;> omega
theorem posR_eq : ∀ {l : List Rt} {r : Rt} {k : Nat}, k ≤ l.length → (∀ i x, i < k → l[i]? = some x → Rl x r) → (∀ x, l[k]? = some x → ¬ Rl x r) → posR l r = k
  | [], r, k, hk, _, _ => by simp at hk; rw [hk]; rfl
  | x :: l, r, 0, _, _, h => by unfold posR; rw [if_neg (h x rfl)]
  | x :: l, r, k + 1, hk, h, h' => by
    unfold posR
    rw [if_pos (h 0 x (by omega) rfl), posR_eq (k := k) (by simpa using hk) (fun i y hi hy => h (i + 1) y (by omega) (by simpa using hy)) (fun y hy => h' y (by simpa using hy))]
theorem insL_new : ∀ {l : List Rt} {r : Rt}, (∀ q, l[posR l r]? = some q → Rl r q) → insL l r = l.take (posR l r) ++ r :: l.drop (posR l r)
  | [], r, _ => rfl
  | x :: l, r, h => by
    unfold insL
    by_cases hx : Rl x r
    · have hp : posR (x :: l) r = posR l r + 1 := by show (if _ then _ else _) = _; rw [if_pos hx]
      rw [hp] at h ⊢
      rw [if_pos hx, insL_new fun q hq => h q (by simpa using hq)]
      simp
    · have hp : posR (x :: l) r = 0 := by show (if _ then _ else _) = _; rw [if_neg hx]
      rw [hp] at h ⊢
      rw [if_neg hx, if_pos (h x rfl)]
      rfl
theorem insL_same : ∀ {l : List Rt} {r q : Rt}, l[posR l r]? = some q → ¬ Rl r q → insL l r = l.set (posR l r) r
  | [], r, q, h, _ => by simp at h
  | x :: l, r, q, h, h' => by
    unfold insL
    by_cases hx : Rl x r
    · have hp : posR (x :: l) r = posR l r + 1 := by show (if _ then _ else _) = _; rw [if_pos hx]
      rw [hp] at h ⊢
      rw [if_pos hx, insL_same (by simpa using h) h']
      rfl
    · have hp : posR (x :: l) r = 0 := by show (if _ then _ else _) = _; rw [if_neg hx]
      rw [hp] at h ⊢
      cases h
      rw [if_neg hx, if_neg h']
      rfl
theorem insL_len (l : List Rt) (r : Rt) : l.length ≤ (insL l r).length ∧ (insL l r).length ≤ l.length + 1 := by
  induction l with
  | nil => simp [insL]
  | cons x l ih =>
    unfold insL
    split
    · simp; omega
    · split <;> simp
theorem insL_self (l : List Rt) (r : Rt) : r ∈ insL l r := by
  induction l with
  | nil => simp [insL]
  | cons x l ih =>
    unfold insL
    split
    · simp [ih]
    · split <;> simp
theorem insL_mem {l : List Rt} (hl : l.Pairwise Rl) (r x : Rt) : x ∈ insL l r ↔ x = r ∨ (x ∈ l ∧ ¬ Ky x r) := by
  induction l with
  | nil => simp [insL]
  | cons y l ih =>
    obtain ⟨h1, h2⟩ := List.pairwise_cons.1 hl
    have ih := ih h2
    unfold insL
    split
    · rename_i hy
      rw [List.mem_cons, ih, List.mem_cons]
      constructor
      · rintro (rfl | h | ⟨h, h'⟩)
        · exact .inr ⟨.inl rfl, fun hk => hk.nl hy⟩
        · exact .inl h
        · exact .inr ⟨.inr h, h'⟩
      · rintro (h | ⟨rfl | h, h'⟩)
        · exact .inr (.inl h)
        · exact .inl rfl
        · exact .inr (.inr ⟨h, h'⟩)
    · rename_i hy
      split
      · rename_i hr
        rw [List.mem_cons, List.mem_cons]
        constructor
        · rintro (h | rfl | h)
          · exact .inl h
          · exact .inr ⟨.inl rfl, fun hk => hk.symm.nl hr⟩
          · exact .inr ⟨.inr h, fun hk => hk.symm.nl (hr.trans (h1 x h))⟩
        · rintro (h | ⟨rfl | h, h'⟩)
          · exact .inl h
          · exact .inr (.inl rfl)
          · exact .inr (.inr h)
      · rename_i hr
        have hk := Rl.ky hy hr
        rw [List.mem_cons]
        constructor
        · rintro (h | h)
          · exact .inl h
          · exact .inr ⟨by simp [h], fun hk' => hk'.symm.nl (hk.symm.l (h1 x h))⟩
        · rintro (h | ⟨h, h'⟩)
          · exact .inl h
          · rcases List.mem_cons.1 h with rfl | h
            · exact absurd hk h'
            · exact .inr h
theorem insL_pw {l : List Rt} (hl : l.Pairwise Rl) (r : Rt) : (insL l r).Pairwise Rl := by
  induction l with
  | nil => simp [insL]
  | cons y l ih =>
    obtain ⟨h1, h2⟩ := List.pairwise_cons.1 hl
    unfold insL
    split
    · rename_i hy
      refine List.pairwise_cons.2 ⟨fun x hx => ?_, ih h2⟩
      rcases (insL_mem h2 r x).1 hx with rfl | ⟨h, _⟩
      · exact hy
      · exact h1 x h
    · rename_i hy
      split
      · rename_i hr
        refine List.pairwise_cons.2 ⟨fun x hx => ?_, hl⟩
        rcases List.mem_cons.1 hx with rfl | h
        · exact hr
        · exact hr.trans (h1 x h)
      · rename_i hr
        exact List.pairwise_cons.2 ⟨fun x hx => (Rl.ky hy hr).symm.l (h1 x hx), h2⟩
/-- Whether a route of the same key is there tells how long the new list is. -/
theorem insL_len_iff {l : List Rt} (hl : l.Pairwise Rl) (r : Rt) : ((insL l r).length = l.length ∧ ∃ q ∈ l, Ky q r) ∨ ((insL l r).length = l.length + 1 ∧ ∀ q ∈ l, ¬ Ky q r) := by
  induction l with
  | nil => exact .inr ⟨rfl, by simp⟩
  | cons y l ih =>
    obtain ⟨h1, h2⟩ := List.pairwise_cons.1 hl
    unfold insL
    split
    · rename_i hy
      rcases ih h2 with ⟨h3, q, hq, hk⟩ | ⟨h3, h4⟩
      · exact .inl ⟨by simp [h3], q, by simp [hq], hk⟩
      · refine .inr ⟨by simp [h3], fun q hq => ?_⟩
        rcases List.mem_cons.1 hq with rfl | hq
        · exact fun hk => hk.nl hy
        · exact h4 q hq
    · rename_i hy
      split
      · rename_i hr
        refine .inr ⟨by simp, fun q hq hk => ?_⟩
        rcases List.mem_cons.1 hq with rfl | hq
        · exact hk.symm.nl hr
        · exact hk.symm.nl (hr.trans (h1 q hq))
      · rename_i hr
        exact .inl ⟨by simp, y, by simp, Rl.ky hy hr⟩
theorem insL_vl {l : List Rt} {n : Nat} {r : Rt} (h : VL l n) (hr : RV r n) : VL (insL l r) n :=
  ⟨fun x hx => by
    rcases (insL_mem h.pw r x).1 hx with rfl | ⟨h1, _⟩
    · exact hr
    · exact h.rv x h1, insL_pw h.pw r⟩
noncomputable def addT (t : Tab) (r : Rt) : Tab × Bool :=
  if tb (TV t ∧ RV r t.hops.length) = true then if (insL t.routes r).length ≤ 10 then (⟨insL t.routes r, t.hops⟩, true) else (t, false) else (⟨[], []⟩, false)
theorem addT_no {t : Tab} {r : Rt} (h : ¬ (TV t ∧ RV r t.hops.length)) : addT t r = (⟨[], []⟩, false) := by unfold addT; rw [if_neg (by rw [tb_no h]; decide)]
theorem addT_yes {t : Tab} {r : Rt} (h : TV t) (h' : RV r t.hops.length) (hl : (insL t.routes r).length ≤ 10) : addT t r = (⟨insL t.routes r, t.hops⟩, true) := by unfold addT; rw [if_pos (tb_yes ⟨h, h'⟩), if_pos hl]
theorem addT_full {t : Tab} {r : Rt} (h : TV t) (h' : RV r t.hops.length) (hl : ¬ (insL t.routes r).length ≤ 10) : addT t r = (t, false) := by unfold addT; rw [if_pos (tb_yes ⟨h, h'⟩), if_neg hl]
theorem addT_ok {t : Tab} {r : Rt} (h : (addT t r).2 = true) : TV t ∧ RV r t.hops.length ∧ (insL t.routes r).length ≤ 10 ∧ addT t r = (⟨insL t.routes r, t.hops⟩, true) := by
  by_cases h1 : TV t ∧ RV r t.hops.length
  · by_cases h2 : (insL t.routes r).length ≤ 10
    · exact ⟨h1.1, h1.2, h2, addT_yes h1.1 h1.2 h2⟩
    · rw [addT_full h1.1 h1.2 h2] at h; cases h
  · rw [addT_no h1] at h; cases h
theorem addT_tv {t : Tab} {r : Rt} (h : (addT t r).2 = true) : TV (addT t r).1 := by
  obtain ⟨h1, h2, h3, h4⟩ := addT_ok h
  rw [h4]
  exact tv_mk h3 h1.hv (insL_vl h1.vl h2)

/-! ### Removing -/
def remL (l : List Rt) (p b : Int) : List Rt := l.filter fun x => !(x.pre == p && x.bits == b)
theorem remL_mem {l : List Rt} {p b : Int} {x : Rt} : x ∈ remL l p b ↔ x ∈ l ∧ ¬ (x.pre = p ∧ x.bits = b) := by
  unfold remL
  rw [List.mem_filter]
  simp
  intro _
  omega
theorem remL_snoc (l : List Rt) (x : Rt) (p b : Int) : remL (l ++ [x]) p b = if x.pre = p ∧ x.bits = b then remL l p b else remL l p b ++ [x] := by
  unfold remL
  rw [List.filter_append]
  split
  · rename_i h
    simp [h.1, h.2]
  · rename_i h
    simp only [List.filter_cons, List.filter_nil]
    rw [if_pos]
    simp
    omega
theorem remL_none {l : List Rt} {p b : Int} (h : ∀ x ∈ l, ¬ (x.pre = p ∧ x.bits = b)) : remL l p b = l := by
  unfold remL
  rw [List.filter_eq_self]
  intro x hx
  have := h x hx
  simp
  omega
theorem remL_at : ∀ {l : List Rt} {k : Nat} {q : Rt} {p b : Int}, l.Pairwise Rl → l[k]? = some q → q.pre = p → q.bits = b → remL l p b = l.take k ++ l.drop (k + 1)
  | [], k, q, p, b, _, h, _, _ => by simp at h
  | x :: l, 0, q, p, b, hl, h, h1, h2 => by
    cases h
    obtain ⟨h3, h4⟩ := List.pairwise_cons.1 hl
    have : remL (x :: l) p b = remL l p b := by unfold remL; simp [h1, h2]
    rw [this, remL_none]
    · simp
    · intro y hy hk
      exact (show ¬ Rl x y from Ky.nl ⟨by omega, by omega⟩) (h3 y hy)
  | x :: l, k + 1, q, p, b, hl, h, h1, h2 => by
    obtain ⟨h3, h4⟩ := List.pairwise_cons.1 hl
    have h' : l[k]? = some q := by simpa using h
    have hx := h3 q (List.mem_of_getElem? h')
    have : remL (x :: l) p b = x :: remL l p b := by
      unfold remL
      rw [List.filter_cons, if_pos]
      have : ¬ (x.pre = p ∧ x.bits = b) := fun h5 => (show ¬ Rl x q from Ky.nl ⟨by omega, by omega⟩) hx
      simp
      omega
    rw [this, remL_at h4 h' h1 h2]
    simp
theorem remL_vl {l : List Rt} {n : Nat} (h : VL l n) (p b : Int) : VL (remL l p b) n :=
  ⟨fun x hx => h.rv x (remL_mem.1 hx).1, h.pw.sublist (List.filter_sublist)⟩
noncomputable def remT (t : Tab) (p b : Int) : Tab × Bool :=
  if tb (TV t) = true then (⟨remL t.routes p b, t.hops⟩, decide ((remL t.routes p b).length < t.routes.length)) else (⟨[], []⟩, false)
theorem remT_no {t : Tab} {p b : Int} (h : ¬ TV t) : remT t p b = (⟨[], []⟩, false) := by unfold remT; rw [if_neg (by rw [tb_no h]; decide)]
theorem remT_yes {t : Tab} {p b : Int} (h : TV t) : remT t p b = (⟨remL t.routes p b, t.hops⟩, decide ((remL t.routes p b).length < t.routes.length)) := by unfold remT; rw [if_pos (tb_yes h)]
theorem remL_len (l : List Rt) (p b : Int) : (remL l p b).length ≤ l.length := List.length_filter_le _ _
theorem remL_found {l : List Rt} {k : Nat} {q : Rt} {p b : Int} (hl : l.Pairwise Rl) (h : l[k]? = some q) (h1 : q.pre = p) (h2 : q.bits = b) : (remL l p b).length + 1 = l.length := by
  rw [remL_at hl h h1 h2]
  have := get_lt h
  simp
  omega

/-! ### Turning -/
def cntH (l : List Rt) (h : Int) : Nat := l.countP fun r => r.hop == h
theorem cntH_snoc (l : List Rt) (r : Rt) (h : Int) : cntH (l ++ [r]) h = cntH l h + if r.hop = h then 1 else 0 := by
  unfold cntH
  rw [List.countP_append]
  simp [List.countP_cons]
theorem cntH_le (l : List Rt) (h : Int) : cntH l h ≤ l.length := List.countP_le_length
noncomputable def turnT (t : Tab) (h n : Int) : Tab × Int :=
  if tb (TV t ∧ (0 ≤ h ∧ h ≤ t.hops.length - 1) ∧ (0 ≤ n ∧ n ≤ 7)) = true then (⟨t.routes, t.hops.set h.toNat n⟩, (cntH t.routes h : Int)) else (⟨[], []⟩, -1)
theorem turnT_no {t : Tab} {h n : Int} (hn : ¬ (TV t ∧ (0 ≤ h ∧ h ≤ t.hops.length - 1) ∧ (0 ≤ n ∧ n ≤ 7))) : turnT t h n = (⟨[], []⟩, -1) := by unfold turnT; rw [if_neg (by rw [tb_no hn]; decide)]
theorem turnT_yes {t : Tab} {h n : Int} (hn : TV t ∧ (0 ≤ h ∧ h ≤ t.hops.length - 1) ∧ (0 ≤ n ∧ n ≤ 7)) : turnT t h n = (⟨t.routes, t.hops.set h.toNat n⟩, (cntH t.routes h : Int)) := by unfold turnT; rw [if_pos (tb_yes hn)]
theorem turnT_tv {t : Tab} {h n : Int} (hn : TV t ∧ (0 ≤ h ∧ h ≤ t.hops.length - 1) ∧ (0 ≤ n ∧ n ≤ 7)) : TV (turnT t h n).1 := by
  rw [turnT_yes hn]
  refine tv_mk hn.1.len.2 ⟨by simpa using hn.1.len.1, fun m hm => ?_⟩ (by simpa using hn.1.vl)
  rcases List.mem_or_eq_of_mem_set hm with h1 | h1
  · exact hn.1.hv.2 m h1
  · omega
end Go.Proofs.Ytlkchocjldllgaa
