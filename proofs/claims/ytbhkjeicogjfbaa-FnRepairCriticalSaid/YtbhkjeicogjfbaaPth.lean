/- Hops, paths and repairs as lists. Conditions: the graph is valid. -/
import Derived.Test.YtbhkjeicogjfbaaNb
import Derived.Test.YtbhkjeicogjfbaaSelS
namespace Go.Proofs.Ytbhkjeicogjfbaa

theorem selTo_filter {p q : Int → Prop} {k : Nat} (h : ∀ x, q x → p x) : (selTo p k).filter (fun x => tb (q x)) = selTo q k := by
  unfold selTo
  rw [List.filter_filter]
  refine List.filter_congr fun x _ => ?_
  by_cases hq : q x
  · rw [tb_yes hq, tb_yes (h x hq)]; rfl
  · rw [tb_no hq]; rfl
/-- The next hops among the first k neighbours. -/
noncomputable def hopTo (g : Gr) (y x : Int) (k : Nat) : List Int := ((nbL g x).take k).filter fun m => tb (Hp g y x m)
section
variable {g : Gr} {y x m : Int} {k : Nat}
theorem hopTo_all {k : Nat} (h : (nbL g x).length ≤ k) : hopTo g y x k = hopL g y x := by
  unfold hopTo
  rw [List.take_of_length_le h]
  exact selTo_filter fun m h => hp_nbr h
theorem hopTo_yes (hm : (nbL g x)[k]? = some m) (h : Hp g y x m) : hopTo g y x (k + 1) = hopTo g y x k ++ [m] := by
  unfold hopTo
  rw [List.take_add_one, hm]
  simp [List.filter_append, tb_yes h]
theorem hopTo_no (hm : (nbL g x)[k]? = some m) (h : ¬ Hp g y x m) : hopTo g y x (k + 1) = hopTo g y x k := by
  unfold hopTo
  rw [List.take_add_one, hm]
  simp [List.filter_append, tb_no h]
theorem nbL_len (hg : GV g) (x : Int) : (nbL g x).length ≤ 8 := Nat.le_trans (selTo_len _ _) (by have := hg.n; omega)
theorem hopL_len (hg : GV g) (y x : Int) : (hopL g y x).length ≤ 8 := Nat.le_trans (selTo_len _ _) (by have := hg.n; omega)
theorem hopTo_len (hg : GV g) (y x : Int) (k : Nat) : (hopTo g y x k).length ≤ 8 := by
  refine Nat.le_trans (List.length_filter_le _ _) (Nat.le_trans ?_ (nbL_len hg x))
  rw [List.length_take]; omega
theorem nbL_mem (hg : GV g) : m ∈ nbL g x ↔ Nbr g x m := by
  unfold nbL
  rw [selTo_mem]
  refine ⟨fun h => h.2, fun h => ⟨?_, h⟩⟩
  have h1 := (h.nd hg).2
  have := hg.n
  unfold Nd at h1
  omega

/-! ### Paths -/
noncomputable def pathL (g : Gr) (y x : Int) : List Int := open Classical in if h : ∃ L, Pt g y x L then h.choose else []
theorem pathL_is {L : List Int} (h : Pt g y x L) : pathL g y x = L := by
  have he : ∃ L, Pt g y x L := ⟨L, h⟩
  unfold pathL
  rw [dif_pos he]
  exact he.choose_spec.uniq h
theorem pathL_no (hg : GV g) (hy : Nd g y) (h : D g y x < 0) : pathL g y x = [] := by
  unfold pathL
  rw [dif_neg]
  rintro ⟨L, hL⟩
  have := (hL.reach hg hy).1
  omega
theorem pathL_pt (hg : GV g) (hy : Nd g y) (hx : Nd g x) (h : 0 ≤ D g y x) : Pt g y x (pathL g y x) := by
  obtain ⟨L, hL⟩ := Pt.ex hg hy hx h
  rw [pathL_is hL]; exact hL
theorem pathL_ne (hg : GV g) (hy : Nd g y) (hx : Nd g x) : pathL g y x ≠ [] ↔ 0 ≤ D g y x := by
  constructor
  · intro h
    rcases Int.lt_or_le (D g y x) 0 with h0 | h0
    · exact absurd (pathL_no hg hy h0) h
    · exact h0
  · intro h
    have h1 := (pathL_pt hg hy hx h).head.2
    intro h2
    rw [h2] at h1
    simp at h1
theorem pathL_len (hg : GV g) (hy : Nd g y) (x : Int) : (pathL g y x).length ≤ 8 := by
  have hn := hg.n
  unfold pathL
  split
  · rename_i h
    have := h.choose_spec.len hg hy
    omega
  · simp
/-- A path that has come from x to z, and is still to go on from there. -/
def Way (g : Gr) (y x z : Int) (L : List Int) : Prop := ∃ M, L = M ++ [z] ∧ ∀ T, Pt g y z T → Pt g y x (M ++ T)
theorem way_start (g : Gr) (y x : Int) : Way g y x x [x] := ⟨[], rfl, fun _ h => h⟩
theorem Way.step {z : Int} {t L : List Int} (h : Way g y x z L) (hz : z ≠ y) (hh : hopL g y z = m :: t) : Way g y x m (L ++ [m]) := by
  obtain ⟨M, rfl, h⟩ := h
  refine ⟨M ++ [z], rfl, fun T hT => ?_⟩
  have := h _ (.step hz hh hT)
  simpa using this
theorem Way.stop {L : List Int} (h : Way g y x y L) : Pt g y x L := by
  obtain ⟨M, rfl, h⟩ := h
  exact h _ .done
theorem Way.len (hg : GV g) (hy : Nd g y) {z : Int} {L : List Int} (h : Way g y x z L) (hz : Nd g z) (h0 : 0 ≤ D g y z) : L.length ≤ 8 := by
  obtain ⟨M, rfl, h⟩ := h
  obtain ⟨T, hT⟩ := Pt.ex hg hy hz h0
  have h1 := (h T hT).len hg hy
  have h2 := hT.head.2
  have := hg.n
  simp only [List.length_append, List.length_cons, List.length_nil] at h1 ⊢
  omega
end

/-! ### Repairs -/
noncomputable def repL (g : Gr) (f k t : Int) : List Int := okL (Ok g f k ∧ Nd g t) (pathL (Wo g k.toNat) t f)
theorem repL_len (g : Gr) (f k t : Int) : (repL g f k t).length ≤ 8 := by
  by_cases h : Ok g f k ∧ Nd g t
  · rw [repL, okL_yes h]
    exact pathL_len (wo_gv h.1.1 _) (wo_nd.2 h.2) f
  · rw [repL, okL_no h]; simp
theorem repL_pt {g : Gr} {f k t : Int} (h : repL g f k t ≠ []) : (Ok g f k ∧ Nd g t) ∧ Pt (Wo g k.toNat) t f (repL g f k t) := by
  by_cases hk : Ok g f k ∧ Nd g t
  · refine ⟨hk, ?_⟩
    rw [repL, okL_yes hk] at h ⊢
    have hw := wo_gv hk.1.1 k.toNat
    exact pathL_pt hw (wo_nd.2 hk.2) (wo_nd.2 hk.1.2.2) ((pathL_ne hw (wo_nd.2 hk.2) (wo_nd.2 hk.1.2.2)).1 h)
  · rw [repL, okL_no hk] at h; exact absurd rfl h
/-- What RepairStack answers. -/
def RSt (g : Gr) (f k t : Int) (S : List Lb) (b : Prop) : Prop := (repL g f k t ≠ [] → b ∧ Gd g (lkOf g k) (repL g f k t) 0 S) ∧ (repL g f k t = [] → ¬ b ∧ S = [])
theorem RSt.uniq {g : Gr} {f k t : Int} {S S' : List Lb} {b b' : Prop} (h : RSt g f k t S b) (h' : RSt g f k t S' b') : S = S' ∧ (b ↔ b') := by
  by_cases hr : repL g f k t = []
  · obtain ⟨h1, h2⟩ := h.2 hr
    obtain ⟨h3, h4⟩ := h'.2 hr
    exact ⟨by rw [h2, h4], ⟨fun h => absurd h h1, fun h => absurd h h3⟩⟩
  · obtain ⟨h1, h2⟩ := h.1 hr
    obtain ⟨h3, h4⟩ := h'.1 hr
    exact ⟨h2.uniq h4, ⟨fun _ => h3, fun _ => h1⟩⟩
theorem RSt.iff {g : Gr} {f k t : Int} {S : List Lb} {b : Prop} (h : RSt g f k t S b) : b ↔ repL g f k t ≠ [] := by
  by_cases hr : repL g f k t = []
  · exact ⟨fun hb => absurd hb (h.2 hr).1, fun hn => absurd hr hn⟩
  · exact ⟨fun _ => hr, fun _ => (h.1 hr).1⟩
theorem RSt.len {g : Gr} {f k t : Int} {S : List Lb} {b : Prop} (h : RSt g f k t S b) : S.length ≤ 7 := by
  have h8 := repL_len g f k t
  by_cases hr : repL g f k t = []
  · rw [(h.2 hr).2]; simp
  · have h1 := (h.1 hr).2.len (List.length_pos_iff.2 hr)
    omega
/-- A stack of labels on its way along the path P. -/
def Going (g : Gr) (l : Lk) (P : List Int) (i : Nat) (S : List Lb) : Prop := ∀ T, Gd g l P i T → Gd g l P 0 (S ++ T)
section
variable {g : Gr} {l : Lk} {P : List Int} {i e : Nat} {a b : Int} {S : List Lb}
theorem going_start (g : Gr) (l : Lk) (P : List Int) : Going g l P 0 [] := fun _ h => h
theorem Going.node (h : Going g l P i S) (he : i < e) (ha : P[i]? = some a) (hb : P[e]? = some b) (hs : Sf g l a b) (hn : ∀ j c, e < j → P[j]? = some c → ¬ Sf g l a c) : Going g l P e (S ++ [⟨1, b⟩]) := fun T hT => by
  have := h _ (.node he ha hb hs hn hT)
  simpa using this
theorem Going.link (h : Going g l P i S) (ha : P[i]? = some a) (hb : P[i + 1]? = some b) (hn : ∀ j c, i < j → P[j]? = some c → ¬ Sf g l a c) : Going g l P (i + 1) (S ++ [⟨2, lnk g a b⟩]) := fun T hT => by
  have := h _ (.link ha hb hn hT)
  simpa using this
theorem Going.stop (h : Going g l P i S) (hi : P.length ≤ i + 1) : Gd g l P 0 S := by
  have := h [] (.done hi)
  simpa using this
end

/-! ### Critical links -/
def critP (g : Gr) (i : Int) : Prop := D (Wo g i.toNat) (lkOf g i).a (lkOf g i).b < 0
noncomputable def critL (g : Gr) : List Int := okL (GV g) (selTo (critP g) g.ls.length)
theorem critL_len (g : Gr) : (critL g).length ≤ 14 := by
  by_cases h : GV g
  · rw [critL, okL_yes h]; exact Nat.le_trans (selTo_len _ _) h.len
  · rw [critL, okL_no h]; simp
end Go.Proofs.Ytbhkjeicogjfbaa
