/- Drawing a table, an address. Conditions: the reader's place is at most 1000. -/
import Derived.Test.YtlkchocjldllgaaDrawR
import Derived.Test.YtlkchocjldllgaaAddS
import Derived.Deep.RegionLaw
namespace Go.Proofs.Ytlkchocjldllgaa
open Go.RowKit

theorem own_blk_ne {α : Type} {enc : α → List Value} {e t : TypeId} {s base T : Nat} {w : World} {v : Value} {l : List α} {cs : Array Value} (h : Own enc e s w base v l) (hB : Blk w T t cs) (hne : e ≠ t) : v.ownBlock ≠ some T := by
  rcases h.2 with ⟨rfl, _⟩ | ⟨g, cap, cur, rfl, _, hh, _⟩
  · simp [Value.ownBlock]
  · intro he
    simp [Value.ownBlock] at he
    subst he
    unfold Blk at hB
    rw [hh] at hB
    injection hB with hB
    injection hB with _ ht
    exact hne ht
theorem own_far' {α : Type} {enc : α → List Value} {e s base b i : Nat} {w : World} {v : Value} {l : List α} (h : Own enc e s w base v l) (hne : v.ownBlock ≠ some b) (u : Value) : Own enc e s (w.setCell ⟨b, i, none⟩ u) base v l :=
  own_far h (fun q hq he => hne (by rw [hq, he])) u
/-- From block a on, w' is as w was. -/
structure Kept (a : Nat) (w w' : World) : Prop where
  size : w.heap.size ≤ w'.heap.size
  block : ∀ q, a ≤ q → q < w.heap.size → w'.heap[q]? = w.heap[q]?
theorem Kept.refl (a : Nat) (w : World) : Kept a w w := ⟨Nat.le_refl _, fun _ _ _ => rfl⟩
theorem Kept.trans {a : Nat} {w w' w'' : World} (h : Kept a w w') (h' : Kept a w' w'') : Kept a w w'' := ⟨Nat.le_trans h.size h'.size, fun q hq hl => (h'.block q hq (Nat.lt_of_lt_of_le hl h.size)).trans (h.block q hq hl)⟩
theorem Kept.of_below {a : Nat} {w w' : World} (h : Below w.heap.size w w') : Kept a w w' := ⟨h.size, fun q _ hl => h.block q hl⟩
theorem Kept.of_grown {a g : Nat} {w w' : World} (h : w.grownBy w' (some g)) (hg : g < a) : Kept a w w' := ⟨h.size, fun q hq hl => h.block q hl (by intro e; injection e; omega)⟩
theorem Kept.of_set {a : Nat} {w : World} {p : Addr} (hp : p.block < a) (u : Value) : Kept a w (w.setCell p u) := ⟨by simp [World.setCell], fun q hq _ => Below.heap_setCell w p u q (by omega)⟩
theorem Own.kept {α : Type} {enc : α → List Value} {e s base : Nat} {w w' : World} {v : Value} {l : List α} (h : Own enc e s w base v l) (hk : Kept base w w') : Own enc e s w' base v l :=
  h.keep fun q hq => hk.block q (World.ownsRow.lt h q hq).1 (World.ownsRow.lt h q hq).2
theorem Rd.drew {w : World} {g p : Nat} {bs : List Int} (h : Rd w g bs p) : Rd w.drew g bs p := h
def DrawAPost (bs : List Int) (g p : Nat) (w : World) (e : Ending) (w' : World) : Prop :=
  ∃ (a : Int) (p' : Nat), e = .returned (.int .i64 a) ∧ (-1 ≤ a ∧ a ≤ 256) ∧ Rd w' g bs p' ∧ p' ≤ p + 2 ∧ w.grownBy w' (some g)
theorem drawAddr_any (bs : List Int) (g p : Nat) (w : World) (hR : Rd w g bs p) (hp : p ≤ 1000000) :
    Calls Try.prog 63 #[.pointer (some ⟨g, 0, none⟩)] w (DrawAPost bs g p w) := by
  have hgl := hR.lt
  go_enter Try.func63, Try.ntmps63
  go_wp2_with fail
  refine (pick_any bs g p _ _ hR (by omega)).mono ?_
  rintro e w1 ⟨r1, rfl, hr1, R1, hg1⟩
  by_cases h0 : r1 = 0
  · subst h0
    go_wp2_with fail
    have hB := Blk.new w1 3 #[.int .i64 (-1), .int .i64 0, .int .i64 255, .int .i64 256]
    refine (pick_any bs g (p + 1) _ _ (R1.alloc _) (by omega)).mono ?_
    rintro e w2 ⟨r2, rfl, ⟨h20, h21⟩, R2, hg2⟩
    have h22 := h21 (by omega)
    have hB2 := hB.grown hg2 (by intro h; injection h with h; have := R1.lt; omega)
    have f2 := only_trans hg1 (only_trans (only_alloc (only_refl w1 (some g)) (Obj.cells #[.int .i64 (-1), .int .i64 0, .int .i64 255, .int .i64 256] 3)) hg2)
    have c0 := hB2.cell 0
    have c1 := hB2.cell 1
    have c2 := hB2.cell 2
    have c3 := hB2.cell 3
    rcases (show r2 = 0 ∨ r2 = 1 ∨ r2 = 2 ∨ r2 = 3 by omega) with rfl | rfl | rfl | rfl
    all_goals
      go_wp2
      go_ret
      exact ⟨_, _, rfl, ⟨by omega, by omega⟩, R2, by omega, f2⟩
  · have e0 : (r1 == 0) = false := by simp [h0]
    clear h0
    go_wp2_with fail
    refine (pick_any bs g (p + 1) _ _ R1 (by omega)).mono ?_
    rintro e w2 ⟨r2, rfl, ⟨h20, h21⟩, R2, hg2⟩
    have h22 := h21 (by omega)
    go_wp2
    go_ret
    exact ⟨_, _, rfl, ⟨by omega, by omega⟩, R2, by omega, only_trans hg1 hg2⟩

/-- The state of the drawing. -/
structure DT (w0 : World) (g T : Nat) (bs : List Int) (pm n : Nat) (W : World) (p : Nat) (v1 v2 : Value) (rs : List Rt) (hs : List Int) : Prop where
  rd : Rd W g bs p
  pm : p ≤ pm
  bt : Blk W T 30 #[v1, v2]
  bo : Blk W w0.heap.size 30 #[.slice none 0 0, .slice none 0 0]
  o1 : Own rc 40 3 W w0.heap.size v1 rs
  o2 : Own ic 3 1 W w0.heap.size v2 hs
  l1 : rs.length ≤ 10
  l2 : hs.length = n
  fr : w0.grownBy W (some g)
def DTe (w0 : World) (g T : Nat) (bs : List Int) (pm n : Nat) (W : World) : Prop := ∃ p v1 v2 rs hs, DT w0 g T bs pm n W p v1 v2 rs hs
section
variable {w0 W W' : World} {g T pm n p : Nat} {bs : List Int} {v1 v2 : Value} {rs : List Rt} {hs : List Int}
theorem DT.pick (h : DT w0 g T bs pm n W p v1 v2 rs hs) (hg : W.grownBy W' (some g)) (hr : Rd W' g bs (p + 1)) (hgl : g < w0.heap.size) (hT : g < T) : DT w0 g T bs (pm + 1) n W' (p + 1) v1 v2 rs hs :=
  ⟨hr, by have := h.pm; omega, h.bt.grown hg (by intro e; injection e; omega), h.bo.grown hg (by intro e; injection e; omega), h.o1.only hg hgl, h.o2.only hg hgl, h.l1, h.l2, only_trans h.fr hg⟩
theorem DT.draw (h : DT w0 g T bs pm n W p v1 v2 rs hs) {p' k : Nat} (hg : W.grownBy W' (some g)) (hr : Rd W' g bs p') (hp : p' ≤ p + k) (hgl : g < w0.heap.size) (hT : g < T) : DT w0 g T bs (pm + k) n W' p' v1 v2 rs hs :=
  ⟨hr, by have := h.pm; omega, h.bt.grown hg (by intro e; injection e; omega), h.bo.grown hg (by intro e; injection e; omega), h.o1.only hg hgl, h.o2.only hg hgl, h.l1, h.l2, only_trans h.fr hg⟩
theorem DT.drew (h : DT w0 g T bs pm n W p v1 v2 rs hs) : DT w0 g T bs pm n W.drew p v1 v2 rs hs := ⟨h.rd, h.pm, h.bt, h.bo, h.o1, h.o2, h.l1, h.l2, ⟨h.fr.os, h.fr.tape, h.fr.output, h.fr.size, h.fr.block⟩⟩
theorem DT.below (h : DT w0 g T bs pm n W p v1 v2 rs hs) (hb : Below W.heap.size W W') : DT w0 g T bs pm n W' p v1 v2 rs hs :=
  ⟨h.rd.below hb, h.pm, h.bt.up hb, h.bo.up hb, h.o1.below hb, h.o2.below hb, h.l1, h.l2, only_below h.fr hb⟩
theorem DT.appI {v3 : Value} {hs' : List Int} {n' : Nat} (h : DT w0 g T bs pm n W p v1 v2 rs hs) (hg : W.grownBy W' v2.ownBlock) (ho : Own ic 3 1 W' w0.heap.size v3 hs') (hl : hs'.length = n') (hgl : g < w0.heap.size) (hwT : w0.heap.size < T) :
    DT w0 g T bs pm n' (W'.setCell ⟨T, 1, none⟩ v3) p v1 v3 rs hs' ∧ Blk W' T 30 #[v1, v2] := by
  have hlo : ∀ k, v2.ownBlock = some k → w0.heap.size ≤ k := fun k hk => (World.ownsRow.lt h.o2 k hk).1
  have bt := h.bt.grown hg (Ne.symm (own_blk_ne h.o2 h.bt (by decide)))
  have bo := h.bo.grown hg (Ne.symm (own_blk_ne h.o2 h.bo (by decide)))
  have o1 := own_grown h.o1 hg (own_types h.o1 h.o2 (by decide))
  have n1 := own_blk_ne o1 bt (by decide)
  have n2 := own_blk_ne ho bt (by decide)
  exact ⟨⟨(h.rd.own hg hlo hgl).far (by simp; omega) _, h.pm, bt.put 1 _, bo.far (by simp; omega) _, own_far' o1 n1 _, own_far' ho n2 _, h.l1, hl,
    only_setCell (only_own h.fr hg hlo) (.inr (by simp; omega)) _⟩, bt⟩
theorem DT.appR {v3 : Value} {rs' : List Rt} (h : DT w0 g T bs pm n W p v1 v2 rs hs) (hg : W.grownBy W' v1.ownBlock) (ho : Own rc 40 3 W' w0.heap.size v3 rs') (hgl : g < w0.heap.size) (hwT : w0.heap.size < T) :
    Rd (W'.setCell ⟨T, 0, none⟩ v3) g bs p ∧ Blk (W'.setCell ⟨T, 0, none⟩ v3) T 30 #[v3, v2] ∧ Blk (W'.setCell ⟨T, 0, none⟩ v3) w0.heap.size 30 #[.slice none 0 0, .slice none 0 0] ∧ Own rc 40 3 (W'.setCell ⟨T, 0, none⟩ v3) w0.heap.size v3 rs' ∧
    Own ic 3 1 (W'.setCell ⟨T, 0, none⟩ v3) w0.heap.size v2 hs ∧ w0.grownBy (W'.setCell ⟨T, 0, none⟩ v3) (some g) ∧ Blk W' T 30 #[v1, v2] := by
  have hlo : ∀ k, v1.ownBlock = some k → w0.heap.size ≤ k := fun k hk => (World.ownsRow.lt h.o1 k hk).1
  have bt := h.bt.grown hg (Ne.symm (own_blk_ne h.o1 h.bt (by decide)))
  have bo := h.bo.grown hg (Ne.symm (own_blk_ne h.o1 h.bo (by decide)))
  have o2 := own_grown h.o2 hg (own_types h.o2 h.o1 (by decide))
  have n1 := own_blk_ne ho bt (by decide)
  have n2 := own_blk_ne o2 bt (by decide)
  exact ⟨(h.rd.own hg hlo hgl).far (by simp; omega) _, bt.put 0 _, bo.far (by simp; omega) _, own_far' ho n1 _, own_far' o2 n2 _, only_setCell (only_own h.fr hg hlo) (.inr (by simp; omega)) _, bt⟩
theorem DT.setI {go c i : Nat} {z x : Int} (h : DT w0 g T bs pm n W p v1 (.slice (some ⟨go, 0, none⟩) hs.length c) rs hs) (hi : hs[i]? = some x) (hgl : g < w0.heap.size) :
    DT w0 g T bs pm n (W.setCell ⟨go, i, none⟩ (.int .i64 z)) p v1 (.slice (some ⟨go, 0, none⟩) hs.length c) rs (hs.set i z) := by
  have hgo := (World.ownsRow.lt h.o2 go rfl).1
  have n1 := own_types h.o2 h.o1 (by decide) go rfl
  have n2 : go ≠ T := fun e => own_blk_ne h.o2 h.bt (by decide) (by rw [e]; rfl)
  have n3 : go ≠ w0.heap.size := fun e => own_blk_ne h.o2 h.bo (by decide) (by rw [e]; rfl)
  have s1 := h.o2.set ic_len (k := i) (j := 0) (x := x) (y := z) (u := .int .i64 z) rfl hi (by decide) rfl
  rw [Nat.mul_one, Nat.add_zero] at s1
  exact ⟨h.rd.far (by simp; omega) _, h.pm, h.bt.far (Ne.symm n2) _, h.bo.far (Ne.symm n3) _, own_far' h.o1 n1 _, s1, h.l1, by simpa using h.l2, only_setCell h.fr (.inr hgo) _⟩
theorem DT.put {x1 x2 : Value} {rs' : List Rt} {hs' : List Int} {n' : Nat} (h : DT w0 g T bs pm n W p v1 v2 rs hs) (o1 : Own rc 40 3 W w0.heap.size x1 rs') (o2 : Own ic 3 1 W w0.heap.size x2 hs') (l1 : rs'.length ≤ 10) (l2 : hs'.length = n') (hgT : g < T) (hwT : w0.heap.size < T) :
    DT w0 g T bs pm n' ((W.setCell ⟨T, 0, none⟩ x1).setCell ⟨T, 1, none⟩ x2) p x1 x2 rs' hs' := by
  have n1 := own_blk_ne o1 h.bt (by decide)
  have n2 := own_blk_ne o2 h.bt (by decide)
  exact ⟨(h.rd.far (by simp; omega) _).far (by simp; omega) _, h.pm, (h.bt.put 0 _).put 1 _, (h.bo.far (by simp; omega) _).far (by simp; omega) _,
    own_far' (own_far' o1 n1 _) n1 _, own_far' (own_far' o2 n2 _) n2 _, l1, l2,
    only_setCell (only_setCell h.fr (.inr (by simp; omega)) _) (.inr (by simp; omega)) _⟩
theorem Own.far2 {α : Type} {enc : α → List Value} {e s base i j : Nat} {w : World} {O : Nat} {v x y : Value} {l : List α} {cs : Array Value} {t : TypeId} (h : Own enc e s w base v l) (hB : Blk w O t cs) (hne : e ≠ t) :
    Own enc e s ((w.setCell ⟨O, i, none⟩ x).setCell ⟨O, j, none⟩ y) base v l := by
  have n1 := own_blk_ne h hB hne
  exact own_far' (own_far' (i := i) h n1 x) (i := j) n1 y
theorem DT.scratch {X i j : Nat} {x y : Value} {cs : Array Value} (h : DT w0 g T bs pm n W p v1 v2 rs hs) (hX : Blk W X 30 cs) (h1 : T < X) (hgT : g < T) (hwT : w0.heap.size < T) :
    DT w0 g T bs pm n ((W.setCell ⟨X, i, none⟩ x).setCell ⟨X, j, none⟩ y) p v1 v2 rs hs := by
  have n1 := own_blk_ne h.o1 hX (by decide)
  have n2 := own_blk_ne h.o2 hX (by decide)
  exact ⟨(h.rd.far (by simp; omega) _).far (by simp; omega) _, h.pm, (h.bt.far (by simp; omega) _).far (by simp; omega) _, (h.bo.far (by simp; omega) _).far (by simp; omega) _, own_far' (own_far' h.o1 n1 _) n1 _, own_far' (own_far' h.o2 n2 _) n2 _, h.l1, h.l2,
    only_setCell (only_setCell h.fr (.inr (by simp; omega)) _) (.inr (by simp; omega)) _⟩
end

def DrawTPost (bs : List Int) (g p : Nat) (w : World) (e : Ending) (w' : World) : Prop :=
  ∃ (v : Value) (t : Tab) (p' : Nat), e = .returned v ∧ (∀ W', Kept w.heap.size w' W' → TbR W' W'.heap.size v t) ∧ (t.routes.length ≤ 11 ∧ t.hops.length ≤ 4) ∧ Rd w' g bs p' ∧ p' ≤ p + 1000 ∧ w.grownBy w' (some g)

set_option maxRecDepth 100000 in
set_option maxHeartbeats 1600000 in
theorem drawTable_any (bs : List Int) (g p : Nat) (w : World) (hR : Rd w g bs p) (hp : p ≤ 1000) :
    Calls Try.prog 62 #[.pointer (some ⟨g, 0, none⟩)] w (DrawTPost bs g p w) := by
  have hgl := hR.lt
  obtain ⟨wb, hwb⟩ : ∃ wb, wb = (((w.alloc (Obj.cells #[.slice none 0 0, .slice none 0 0] 30)).alloc (Obj.cells #[] 40)).alloc (Obj.cells #[] 3)).alloc (Obj.cells #[.slice (some ⟨w.heap.size + 1, 0, none⟩) 0 0, .slice (some ⟨w.heap.size + 1 + 1, 0, none⟩) 0 0] 30) := ⟨_, rfl⟩
  have hD0 : DT w g (w.heap.size + 1 + 1 + 1) bs p 0 wb p (.slice (some ⟨w.heap.size + 1, 0, none⟩) 0 0) (.slice (some ⟨w.heap.size + 1 + 1, 0, none⟩) 0 0) [] [] := by
    rw [hwb]
    refine ⟨(((hR.alloc _).alloc _).alloc _).alloc _, Nat.le_refl _, ?_, (((Blk.new _ _ _).alloc _).alloc _).alloc _, ?_, ?_, by simp, rfl, only_below (only_refl _ _) (below4 w _ _ _ _)⟩
    · have h := Blk.new (((w.alloc (Obj.cells #[.slice none 0 0, .slice none 0 0] 30)).alloc (Obj.cells #[] 40)).alloc (Obj.cells #[] 3)) 30 #[.slice (some ⟨w.heap.size + 1, 0, none⟩) 0 0, .slice (some ⟨w.heap.size + 1 + 1, 0, none⟩) 0 0]
      simpa using h
    · exact ((ownE1 w _ _ (Nat.le_refl _)).below (below1 _ _)).below (below1 _ _)
    · have h := (ownE1 (enc := ic) (s := 1) (base := w.heap.size) (w.alloc (Obj.cells #[.slice none 0 0, .slice none 0 0] 30)) (Obj.cells #[] 40) 3 (by simp)).below (below1 _ (Obj.cells #[.slice (some ⟨w.heap.size + 1, 0, none⟩) 0 0, .slice (some ⟨w.heap.size + 1 + 1, 0, none⟩) 0 0] 30))
      simpa using h
  obtain ⟨T, hT⟩ : ∃ T, T = w.heap.size + 1 + 1 + 1 := ⟨_, rfl⟩
  rw [← hT] at hD0
  have hgT : g < T := by omega
  have hwT : w.heap.size < T := by omega
  go_enter Try.func62, Try.ntmps62
  go_wp2_with fail
  rw [← hwb, ← hT]
  clear hwb hT hR
  refine (pick_any bs g p _ _ hD0.rd (by omega)).mono ?_
  rintro e w1 ⟨r1, rfl, ⟨h10, h11⟩, R1, hg1⟩
  have h12 := h11 (by omega)
  have HD1 := hide (show DTe w g T bs (p + 1 + 0) 0 w1 from ⟨_, _, _, _, _, hD0.pick hg1 R1 hgl hgT⟩)
  clear hD0 hg1 R1 h11
  obtain ⟨m, rfl⟩ := Int.eq_ofNat_of_zero_le h10
  have hm : m ≤ 3 := by omega
  go_wp2
  go_loopg [5] (m + 1) (fun gg iv wr => ∃ k : Nat, k + gg = m + 1 ∧ iv = .int .i64 k ∧ Hid (DTe w g T bs (p + 1 + k) k wr))
  case atStart => exact ⟨0, by omega, rfl, HD1⟩
  case round =>
    obtain ⟨k, hk, rfl, HD⟩ := hrel
    obtain ⟨q, v1, v2, rs, hs, hD⟩ := HD.out
    clear HD1 HD
    by_cases hlt : k < m + 1
    · obtain ⟨A2, c2, rfl, _, _⟩ := hD.o2.lit
      have c1 := hD.bt.cell 1
      have HD := hide hD
      have hpm := hD.pm
      have hl2 := hD.l2
      clear hD
      have HL2 := hide hl2
      have hl5 : hs.length ≤ 4 := by rw [HL2.out]; omega
      clear hl2
      go_upto_region 6 with fail
      go_region_law (first
          | (go_simp; go_at_call 64; refine (pick_any bs g q _ _ HD.out.rd.drew (by omega)).mono ?_; rintro e w2 ⟨r2, rfl, hr2, R2, hg2⟩
             have D2 := HD.out.drew.pick hg2 R2 hgl hgT
             have c12 := D2.bt.cell 1
             have c14 := fun o => (D2.below (below1 w2 o)).bt.cell 1)
          | (refine step_app (by rfl) infI (.tmp 22) (.tmp 25) (by rfl) _ _ (by rfl) (by rfl) w.heap.size (w2.heap.size + 1) hs [r2] ?_ ?_ ?_ ?_ ?_
             · exact D2.o2.below (below1 _ _)
             · exact slr_one (Blk.new w2 3 #[.int .i64 r2]) rfl (by omega)
             · simp; omega
             · have := D2.fr.size; simp; omega
             intro A3 c3 w3 hO3 hg3 hat3
             obtain ⟨D3, B3⟩ := (D2.below (below1 w2 (Obj.cells #[.int .i64 r2] 3))).appI hg3 hO3 (n' := k + 1) (by simp; exact HL2.out) hgl hwT
             have c13 := B3.cell 1
             have z13 := B3.free 1)
          | fail)
      all_goals
       have HDN := hide (show DTe w g T bs (p + 1 + (k + 1)) (k + 1) _ from ⟨_, _, _, _, _, D3⟩)
       clear D2 D3 B3 c12 c13 z13 hO3 hg3 hat3 R2 hg2 c1 HD
       go_wp2
       go_roundg (gk - 1)
       case measure => omega
       case rel => exact ⟨k + 1, by omega, by go_num, HDN⟩
    · have hkm : k = m + 1 := by omega
      subst hkm
      go_wp2_with fail
      refine (pick_any bs g q _ _ hD.rd (by have := hD.pm; omega)).mono ?_
      rintro e w2 ⟨r3, rfl, ⟨h30, h31⟩, R2, hg2⟩
      have h32 := h31 (by omega)
      have D2 := hD.pick hg2 R2 hgl hgT
      have hqp := hD.pm
      clear hD hg2 R2 h31
      go_wp2_with fail
      refine (pick_any bs g (q + 1) _ _ D2.rd (by omega)).mono ?_
      rintro e w3 ⟨r4, rfl, hr4, R3, hg3⟩
      have HD3 := hide (show DTe w g T bs (p + 7 + 11 * 0) (m + 1) w3 from by
        have h := D2.pick hg3 R3 hgl hgT
        exact ⟨_, _, _, _, _, ⟨h.rd, by omega, h.bt, h.bo, h.o1, h.o2, h.l1, h.l2, h.fr⟩⟩)
      clear D2 hg3 R3
      obtain ⟨M, rfl⟩ := Int.eq_ofNat_of_zero_le h30
      have hM : M ≤ 30 := by omega
      by_cases h0 : r4 = 0
      · subst h0
        go_wp2
        go_loopg [7] (30) (fun gg iv wr => ∃ k : Nat, k + gg = 30 ∧ iv = .int .i64 k ∧ Hid (DTe w g T bs (p + 7 + 11 * k) (m + 1) wr))
        case atStart => exact ⟨0, by omega, rfl, HD3⟩
        case round =>
          obtain ⟨k, hk, rfl, HD⟩ := hrel
          obtain ⟨q, v1, v2, rs, hs, hD⟩ := HD.out
          obtain ⟨A1, c1, rfl, _, _⟩ := hD.o1.lit
          obtain ⟨A2, c2, rfl, _, _⟩ := hD.o2.lit
          clear HD3 HD
          have hpm := hD.pm
          have hl1 := hD.l1
          have hl2 := hD.l2
          have HL2 := hide hl2
          have hl5 : hs.length ≤ 4 := by omega
          have hl6 : m < hs.length := by omega
          clear hl2
          have HD := hide hD
          by_cases hlt : k < 30
          · have c0 := hD.bt.cell 0
            have c1' := hD.bt.cell 1
            clear hD
            go_upto_region 13 with fail
            have hgw : g < wr.heap.size := Nat.lt_of_lt_of_le hgl HD.out.fr.size
            have hTw : T < wr.heap.size := HD.out.bt.lt
            have hnil : ∀ X : World, Blk (X.alloc (Obj.cells #[.slice none 0 0, .slice none 0 0] 30)) X.heap.size 30 #[.slice none 0 0, .slice none 0 0] := fun X => Blk.new X _ _
            have HNIL := hide hnil
            have ne3 : T ≠ wr.heap.size := by omega
            have ne4 : wr.heap.size ≠ T := by omega
            clear hnil
            go_region_held3 (fun w' => w'.cell? ⟨T, 0, none⟩ = some (.slice A1 rs.length c1) ∧ w'.cell? ⟨T, 1, none⟩ = some (.slice A2 hs.length c2)) (first | go_keep | exact ⟨D3.bt.cell 0, D3.bt.cell 1⟩ | exact ⟨D2.bt.cell 0, D2.bt.cell 1⟩ | exact ⟨(D3.below (below1 w3 _)).bt.cell 0, (D3.below (below1 w3 _)).bt.cell 1⟩ | exact ⟨(D2.below (below1 w2 _)).bt.cell 0, (D2.below (below1 w2 _)).bt.cell 1⟩ | exact ⟨D3a.bt.cell 0, D3a.bt.cell 1⟩ | fail)
              (first
                | (go_at_call 72; refine (drawRoute_any bs g q _ ?_ (by omega)).mono ?_
                   · first | exact HD.out.rd.drew | exact (HD.out.drew.below (below1 _ _)).rd
                   rintro e w2 ⟨r, p', rfl, R2, hp2, hg2⟩
                   have D2 : DT w g T bs (p + 7 + 11 * k + 10) (m + 1) w2 p' (.slice A1 rs.length c1) (.slice A2 hs.length c2) rs hs := by first | exact HD.out.drew.draw hg2 R2 hp2 hgl hgT | exact (HD.out.drew.below (below1 _ _)).draw hg2 R2 hp2 hgl hgT
                   try (have B82 : Blk w2 wr.heap.size 30 #[.slice none 0 0, .slice none 0 0] := (HNIL.out wr.drew).grown hg2 (by intro h; injection h with h; have h' : wr.heap.size = g := h; omega)))
                | (go_at_call 45; refine (specAdd_any _ ⟨rs, hs⟩ r _ ?_ ⟨by show rs.length ≤ _; omega, by show hs.length ≤ _; omega⟩).mono ?_
                   · first | exact ⟨_, _, rfl, D2.o1.slr rc_len, D2.o2.slr ic_len⟩ | exact ⟨_, _, rfl, (D2.below (below1 _ _)).o1.slr rc_len, (D2.below (below1 _ _)).o2.slr ic_len⟩
                   rintro e w3 ⟨x, rfl, hO3, hb3⟩
                   have D3 : DT w g T bs (p + 7 + 11 * k + 10) (m + 1) w3 p' (.slice A1 rs.length c1) (.slice A2 hs.length c2) rs hs := by first | exact D2.below hb3 | exact (D2.below (below1 _ _)).below hb3
                   try (have B83 := B82.up hb3; have za0 := B83.cell 0; have za1 := B83.cell 1; have za2 := B83.free 0; have za3 := B83.free 1)
                   try (have B84 := (HNIL.out w2).up hb3; have zb0 := B84.cell 0; have zb1 := B84.cell 1; have zb2 := B84.free 0; have zb3 := B84.free 1)
                   have hTw2 : T < w2.heap.size := D2.bt.lt
                   have ne1 : T ≠ w2.heap.size := by omega
                   have ne2 : w2.heap.size ≠ T := by omega
                   have t30 := D3.bt.cell 0
                   have t31 := D3.bt.cell 1
                   obtain ⟨x1, x2, rfl, hx1, hx2, hxs⟩ := hO3
                   obtain ⟨A3, c3, rfl, _, _⟩ := hx1.lit
                   obtain ⟨A4, c4, rfl, _, _⟩ := hx2.lit)
                | fail)
            · have B4 : Blk (w3.alloc (Obj.cells #[.slice A3 (addT ⟨rs, hs⟩ r).1.routes.length c3, .slice A4 (addT ⟨rs, hs⟩ r).1.hops.length c4] 30)) w3.heap.size 30 #[.slice A3 (addT ⟨rs, hs⟩ r).1.routes.length c3, .slice A4 (addT ⟨rs, hs⟩ r).1.hops.length c4] := Blk.new _ _ _
              have D4 : DT w g T bs (p + 7 + 11 * k + 10) (m + 1) (w3.alloc (Obj.cells #[.slice A3 (addT ⟨rs, hs⟩ r).1.routes.length c3, .slice A4 (addT ⟨rs, hs⟩ r).1.hops.length c4] 30)) p' (.slice A1 rs.length c1) (.slice A2 hs.length c2) rs hs := D3.below (below1 w3 (Obj.cells #[.slice A3 (addT ⟨rs, hs⟩ r).1.routes.length c3, .slice A4 (addT ⟨rs, hs⟩ r).1.hops.length c4] 30))
              have hy1 : Own rc 40 3 (w3.alloc (Obj.cells #[.slice A3 (addT ⟨rs, hs⟩ r).1.routes.length c3, .slice A4 (addT ⟨rs, hs⟩ r).1.hops.length c4] 30)) w.heap.size (.slice A3 (addT ⟨rs, hs⟩ r).1.routes.length c3) (addT ⟨rs, hs⟩ r).1.routes := (hx1.below (below1 w3 (Obj.cells #[.slice A3 (addT ⟨rs, hs⟩ r).1.routes.length c3, .slice A4 (addT ⟨rs, hs⟩ r).1.hops.length c4] 30))).low D2.fr.size
              have hy2 : Own ic 3 1 (w3.alloc (Obj.cells #[.slice A3 (addT ⟨rs, hs⟩ r).1.routes.length c3, .slice A4 (addT ⟨rs, hs⟩ r).1.hops.length c4] 30)) w.heap.size (.slice A4 (addT ⟨rs, hs⟩ r).1.hops.length c4) (addT ⟨rs, hs⟩ r).1.hops := (hx2.below (below1 w3 (Obj.cells #[.slice A3 (addT ⟨rs, hs⟩ r).1.routes.length c3, .slice A4 (addT ⟨rs, hs⟩ r).1.hops.length c4] 30))).low D2.fr.size
              obtain ⟨wz, hwz⟩ : ∃ wz, wz = w3.alloc (Obj.cells #[.slice A3 (addT ⟨rs, hs⟩ r).1.routes.length c3, .slice A4 (addT ⟨rs, hs⟩ r).1.hops.length c4] 30) := ⟨_, rfl⟩
              rw [← hwz] at B4 D4 hy1 hy2 ⊢
              obtain ⟨X, hX⟩ : ∃ X, X = w3.heap.size := ⟨_, rfl⟩
              rw [← hX] at B4 ⊢
              clear hwz hX
              cases hok : (addT ⟨rs, hs⟩ r).2 with
              | false =>
                have HDN := hide (show DTe w g T bs (p + 7 + 11 * (k + 1)) (m + 1) wz from ⟨_, _, _, _, _, ⟨D4.rd, by have := D4.pm; omega, D4.bt, D4.bo, D4.o1, D4.o2, D4.l1, D4.l2, D4.fr⟩⟩)
                clear hok
                clear D2 D3 D4 B4 hy1 hy2 hx1 hx2 hxs
                go_wp2
                go_roundg (gk - 1)
                case measure => omega
                case rel => exact ⟨k + 1, by omega, by go_num, HDN⟩
              | true =>
                obtain ⟨hV, hRV, hlen, hadd⟩ := addT_ok hok
                have hrl : (addT ⟨rs, hs⟩ r).1.routes.length ≤ 10 := by rw [hadd]; exact hlen
                have hhl : (addT ⟨rs, hs⟩ r).1.hops.length = m + 1 := by rw [hadd]; exact HL2.out
                have D5 := D4.put hy1 hy2 hrl hhl hgT hwT
                have HDN := hide (show DTe w g T bs (p + 7 + 11 * (k + 1)) (m + 1) _ from ⟨_, _, _, _, _, ⟨D5.rd, by have := D5.pm; omega, D5.bt, D5.bo, D5.o1, D5.o2, D5.l1, D5.l2, D5.fr⟩⟩)
                have q0 := B4.cell 0
                have q1 := B4.cell 1
                have s0 := D4.bt.cell 0
                have s1 := D4.bt.cell 1
                have s2 := D4.bt.free 0
                have s3 := D4.bt.free 1
                clear hok hadd hrl hhl D2 D3 D4 D5 B4 hy1 hy2 hx1 hx2 hxs
                go_wp2
                go_roundg (gk - 1)
                case measure => omega
                case rel => exact ⟨k + 1, by omega, by go_num, HDN⟩
            · have B4 : Blk ((w3.setCell ⟨w2.heap.size, 0, none⟩ (.slice A3 (addT ⟨rs, hs⟩ r).1.routes.length c3)).setCell ⟨w2.heap.size, 1, none⟩ (.slice A4 (addT ⟨rs, hs⟩ r).1.hops.length c4)) w2.heap.size 30 #[.slice A3 (addT ⟨rs, hs⟩ r).1.routes.length c3, .slice A4 (addT ⟨rs, hs⟩ r).1.hops.length c4] := (B84.put 0 _).put 1 _
              have D4 : DT w g T bs (p + 7 + 11 * k + 10) (m + 1) ((w3.setCell ⟨w2.heap.size, 0, none⟩ (.slice A3 (addT ⟨rs, hs⟩ r).1.routes.length c3)).setCell ⟨w2.heap.size, 1, none⟩ (.slice A4 (addT ⟨rs, hs⟩ r).1.hops.length c4)) p' (.slice A1 rs.length c1) (.slice A2 hs.length c2) rs hs := D3.scratch B84 hTw2 hgT hwT
              have hy1 : Own rc 40 3 ((w3.setCell ⟨w2.heap.size, 0, none⟩ (.slice A3 (addT ⟨rs, hs⟩ r).1.routes.length c3)).setCell ⟨w2.heap.size, 1, none⟩ (.slice A4 (addT ⟨rs, hs⟩ r).1.hops.length c4)) w.heap.size (.slice A3 (addT ⟨rs, hs⟩ r).1.routes.length c3) (addT ⟨rs, hs⟩ r).1.routes := own_far' (own_far' (hx1.low (by have := D2.fr.size; simp; omega)) (own_blk_ne hx1 B84 (by decide)) _) (own_blk_ne hx1 B84 (by decide)) _
              have hy2 : Own ic 3 1 ((w3.setCell ⟨w2.heap.size, 0, none⟩ (.slice A3 (addT ⟨rs, hs⟩ r).1.routes.length c3)).setCell ⟨w2.heap.size, 1, none⟩ (.slice A4 (addT ⟨rs, hs⟩ r).1.hops.length c4)) w.heap.size (.slice A4 (addT ⟨rs, hs⟩ r).1.hops.length c4) (addT ⟨rs, hs⟩ r).1.hops := own_far' (own_far' (hx2.low (by have := D2.fr.size; simp; omega)) (own_blk_ne hx2 B84 (by decide)) _) (own_blk_ne hx2 B84 (by decide)) _
              obtain ⟨wz, hwz⟩ : ∃ wz, wz = (w3.setCell ⟨w2.heap.size, 0, none⟩ (.slice A3 (addT ⟨rs, hs⟩ r).1.routes.length c3)).setCell ⟨w2.heap.size, 1, none⟩ (.slice A4 (addT ⟨rs, hs⟩ r).1.hops.length c4) := ⟨_, rfl⟩
              rw [← hwz] at B4 D4 hy1 hy2 ⊢
              obtain ⟨X, hX⟩ : ∃ X, X = w2.heap.size := ⟨_, rfl⟩
              rw [← hX] at B4 ⊢
              clear hwz hX
              cases hok : (addT ⟨rs, hs⟩ r).2 with
              | false =>
                have HDN := hide (show DTe w g T bs (p + 7 + 11 * (k + 1)) (m + 1) wz from ⟨_, _, _, _, _, ⟨D4.rd, by have := D4.pm; omega, D4.bt, D4.bo, D4.o1, D4.o2, D4.l1, D4.l2, D4.fr⟩⟩)
                clear hok
                clear D2 D3 D4 B4 hy1 hy2 hx1 hx2 hxs
                go_wp2
                go_roundg (gk - 1)
                case measure => omega
                case rel => exact ⟨k + 1, by omega, by go_num, HDN⟩
              | true =>
                obtain ⟨hV, hRV, hlen, hadd⟩ := addT_ok hok
                have hrl : (addT ⟨rs, hs⟩ r).1.routes.length ≤ 10 := by rw [hadd]; exact hlen
                have hhl : (addT ⟨rs, hs⟩ r).1.hops.length = m + 1 := by rw [hadd]; exact HL2.out
                have D5 := D4.put hy1 hy2 hrl hhl hgT hwT
                have HDN := hide (show DTe w g T bs (p + 7 + 11 * (k + 1)) (m + 1) _ from ⟨_, _, _, _, _, ⟨D5.rd, by have := D5.pm; omega, D5.bt, D5.bo, D5.o1, D5.o2, D5.l1, D5.l2, D5.fr⟩⟩)
                have q0 := B4.cell 0
                have q1 := B4.cell 1
                have s0 := D4.bt.cell 0
                have s1 := D4.bt.cell 1
                have s2 := D4.bt.free 0
                have s3 := D4.bt.free 1
                clear hok hadd hrl hhl D2 D3 D4 D5 B4 hy1 hy2 hx1 hx2 hxs
                go_wp2
                go_roundg (gk - 1)
                case measure => omega
                case rel => exact ⟨k + 1, by omega, by go_num, HDN⟩
            · have B4 : Blk ((w3.setCell ⟨wr.heap.size, 0, none⟩ (.slice A3 (addT ⟨rs, hs⟩ r).1.routes.length c3)).setCell ⟨wr.heap.size, 1, none⟩ (.slice A4 (addT ⟨rs, hs⟩ r).1.hops.length c4)) wr.heap.size 30 #[.slice A3 (addT ⟨rs, hs⟩ r).1.routes.length c3, .slice A4 (addT ⟨rs, hs⟩ r).1.hops.length c4] := (B83.put 0 _).put 1 _
              have D4 : DT w g T bs (p + 7 + 11 * k + 10) (m + 1) ((w3.setCell ⟨wr.heap.size, 0, none⟩ (.slice A3 (addT ⟨rs, hs⟩ r).1.routes.length c3)).setCell ⟨wr.heap.size, 1, none⟩ (.slice A4 (addT ⟨rs, hs⟩ r).1.hops.length c4)) p' (.slice A1 rs.length c1) (.slice A2 hs.length c2) rs hs := D3.scratch B83 hTw hgT hwT
              have hy1 : Own rc 40 3 ((w3.setCell ⟨wr.heap.size, 0, none⟩ (.slice A3 (addT ⟨rs, hs⟩ r).1.routes.length c3)).setCell ⟨wr.heap.size, 1, none⟩ (.slice A4 (addT ⟨rs, hs⟩ r).1.hops.length c4)) w.heap.size (.slice A3 (addT ⟨rs, hs⟩ r).1.routes.length c3) (addT ⟨rs, hs⟩ r).1.routes := own_far' (own_far' (hx1.low D2.fr.size) (own_blk_ne hx1 B83 (by decide)) _) (own_blk_ne hx1 B83 (by decide)) _
              have hy2 : Own ic 3 1 ((w3.setCell ⟨wr.heap.size, 0, none⟩ (.slice A3 (addT ⟨rs, hs⟩ r).1.routes.length c3)).setCell ⟨wr.heap.size, 1, none⟩ (.slice A4 (addT ⟨rs, hs⟩ r).1.hops.length c4)) w.heap.size (.slice A4 (addT ⟨rs, hs⟩ r).1.hops.length c4) (addT ⟨rs, hs⟩ r).1.hops := own_far' (own_far' (hx2.low D2.fr.size) (own_blk_ne hx2 B83 (by decide)) _) (own_blk_ne hx2 B83 (by decide)) _
              obtain ⟨wz, hwz⟩ : ∃ wz, wz = (w3.setCell ⟨wr.heap.size, 0, none⟩ (.slice A3 (addT ⟨rs, hs⟩ r).1.routes.length c3)).setCell ⟨wr.heap.size, 1, none⟩ (.slice A4 (addT ⟨rs, hs⟩ r).1.hops.length c4) := ⟨_, rfl⟩
              rw [← hwz] at B4 D4 hy1 hy2 ⊢
              obtain ⟨X, hX⟩ : ∃ X, X = wr.heap.size := ⟨_, rfl⟩
              rw [← hX] at B4 ⊢
              clear hwz hX
              cases hok : (addT ⟨rs, hs⟩ r).2 with
              | false =>
                have HDN := hide (show DTe w g T bs (p + 7 + 11 * (k + 1)) (m + 1) wz from ⟨_, _, _, _, _, ⟨D4.rd, by have := D4.pm; omega, D4.bt, D4.bo, D4.o1, D4.o2, D4.l1, D4.l2, D4.fr⟩⟩)
                clear hok
                clear D2 D3 D4 B4 hy1 hy2 hx1 hx2 hxs
                go_wp2
                go_roundg (gk - 1)
                case measure => omega
                case rel => exact ⟨k + 1, by omega, by go_num, HDN⟩
              | true =>
                obtain ⟨hV, hRV, hlen, hadd⟩ := addT_ok hok
                have hrl : (addT ⟨rs, hs⟩ r).1.routes.length ≤ 10 := by rw [hadd]; exact hlen
                have hhl : (addT ⟨rs, hs⟩ r).1.hops.length = m + 1 := by rw [hadd]; exact HL2.out
                have D5 := D4.put hy1 hy2 hrl hhl hgT hwT
                have HDN := hide (show DTe w g T bs (p + 7 + 11 * (k + 1)) (m + 1) _ from ⟨_, _, _, _, _, ⟨D5.rd, by have := D5.pm; omega, D5.bt, D5.bo, D5.o1, D5.o2, D5.l1, D5.l2, D5.fr⟩⟩)
                have q0 := B4.cell 0
                have q1 := B4.cell 1
                have s0 := D4.bt.cell 0
                have s1 := D4.bt.cell 1
                have s2 := D4.bt.free 0
                have s3 := D4.bt.free 1
                clear hok hadd hrl hhl D2 D3 D4 D5 B4 hy1 hy2 hx1 hx2 hxs
                go_wp2
                go_roundg (gk - 1)
                case measure => omega
                case rel => exact ⟨k + 1, by omega, by go_num, HDN⟩
          · have hMk : k ≤ 30 := by omega
            obtain ⟨go, cpg, hx, hgo1, hgo2⟩ := hD.o2.form (by omega)
            have hA : A2 = some ⟨go, 0, none⟩ := by injection hx
            subst hA
            clear hx HD
            go_wp2_with fail
            refine (pick_any bs g q _ _ hD.rd (by omega)).mono ?_
            rintro e w5 ⟨r5, rfl, hr5, R5, hg5⟩
            have D5 := hD.pick hg5 R5 hgl hgT
            clear hD hg5 R5
            by_cases h0 : r5 = 0
            · subst h0
              have c1' := D5.bt.cell 1
              have hgT2 : go ≠ T := fun e => own_blk_ne D5.o2 D5.bt (by decide) (by rw [e]; rfl)
              have hgT3 : T ≠ go := Ne.symm hgT2
              have HD5 := hide D5
              clear D5
              go_upto_region 18 with fail
              go_region_held3 (fun w' => w'.cell? ⟨T, 1, none⟩ = some (.slice (some ⟨go, 0, none⟩) hs.length c2)) (first | go_keep | exact D7.bt.cell 1 | exact D6.bt.cell 1 | fail)
                (first
                  | (go_at_call 64; refine (pick_any bs g (q + 1 + 1) _ _ D6.rd (by omega)).mono ?_; rintro e w7 ⟨r7, rfl, ⟨h70, h71⟩, R7, hg7⟩
                     have h72 := h71 (by omega)
                     have ew1 : IntKind.i64.wrap (r7 * 9) = r7 * 9 := by rw [IntKind.wrap_i64]; omega
                     have ew2 : IntKind.i64.wrap (r7 * 9 - 1) = r7 * 9 - 1 := by rw [IntKind.wrap_i64]; omega
                     have D7 := D6.pick hg7 R7 hgl hgT
                     have t71 := D7.bt.cell 1
                     obtain ⟨⟨u0, q0⟩, z0⟩ := D7.o2.slot (k := i6) (j := 0) rfl (by omega) (by decide)
                     rw [Nat.mul_one, Nat.add_zero] at q0 z0)
                  | (go_at_call 64; refine (pick_any bs g (q + 1) _ _ HD5.out.rd.drew (by omega)).mono ?_; rintro e w6 ⟨r6, rfl, ⟨h60, h61⟩, R6, hg6⟩
                     have h62 := h61 (by omega)
                     have D6 := HD5.out.drew.pick hg6 R6 hgl hgT
                     obtain ⟨i6, rfl⟩ := Int.eq_ofNat_of_zero_le h60
                     have h63 : i6 < hs.length := by omega
                     have h64 : (i6 : Int) < (hs.length : Int) := by omega
                     clear h61)
                  | fail)
              obtain ⟨x0, hx0⟩ := get_some (l := hs) (i := i6) (by omega)
              have D8 := D7.setI (z := r7 * 9 - 1) hx0 hgl
              obtain ⟨wz, hwz⟩ : ∃ wz, wz = w7.setCell ⟨go, i6, none⟩ (.int .i64 (r7 * 9 - 1)) := ⟨_, rfl⟩
              rw [← hwz] at D8 ⊢
              have hl9 : (hs.set i6 (r7 * 9 - 1)).length ≤ 4 := by simpa using hl5
              have hp9 := D8.pm
              clear hwz D6 D7 q0 z0 t71 hx0 R6 R7 hg6 hg7 h71 ew1 ew2
              have o0 := D8.bo.cell 0
              have o1 := D8.bo.cell 1
              have y0 := D8.bo.free 0
              have y1 := D8.bo.free 1
              have tq0 := D8.bt.cell 0
              have tq1 := D8.bt.cell 1
              go_wp2_with fail
              refine bodyPost_ret (v := .agg #[.slice A1 rs.length c1, .slice (some ⟨go, 0, none⟩) hs.length c2]) (by simp [results, Try.results62, go_sem, o0, o1]) rfl ⟨_, ⟨rs, hs.set i6 (r7 * 9 - 1)⟩, _, rfl, fun W' hgW => ⟨_, _, rfl, ((Own.far2 D8.o1 D8.bo (by decide)).kept hgW).slr rc_len, ((Own.far2 D8.o2 D8.bo (by decide)).kept hgW).slr ic_len⟩, ⟨by first | omega | (simp; done) | (simp; omega), by first | omega | (simp; done) | (simp; omega)⟩, (D8.rd.far (by simp; omega) _).far (by simp; omega) _, by omega, only_setCell (only_setCell D8.fr (.inr (Nat.le_refl _)) _) (.inr (Nat.le_refl _)) _⟩
            · have e5 : (r5 == 0) = false := by simp [h0]
              by_cases h1 : r5 = 1
              · subst h1
                have c0' := D5.bt.cell 0
                have HD5 := hide D5
                clear D5 h0
                go_upto_region 20 with fail
                go_region_law (first
                  | (go_simp; go_at_call 72; refine (drawRoute_any bs g (q + 1) _ HD5.out.rd.drew (by omega)).mono ?_; rintro e w6 ⟨r, p6, rfl, R6, hp6, hg6⟩
                     have D6 := HD5.out.drew.draw hg6 R6 hp6 hgl hgT
                     have c60 := D6.bt.cell 0
                     have c61 := fun o => (D6.below (below1 w6 o)).bt.cell 0)
                  | (refine step_app (by rfl) infR (.tmp 64) (.tmp 67) (by rfl) _ _ (by rfl) (by rfl) w.heap.size (w6.heap.size + 1) rs [r] ?_ ?_ ?_ ?_ ?_
                     · exact D6.o1.below (below1 _ _)
                     · exact slr_one (Blk.new w6 40 #[.int .i64 r.pre, .int .i64 r.bits, .int .i64 r.hop]) rfl (by omega)
                     · simp; omega
                     · have := D6.fr.size; simp; omega
                     intro A3 c3 w7 hO7 hg7 hat7
                     have E7 := (D6.below (below1 w6 (Obj.cells #[.int .i64 r.pre, .int .i64 r.bits, .int .i64 r.hop] 40))).appR hg7 hO7 hgl hwT
                     have c70 := E7.2.2.2.2.2.2.cell 0
                     have z70 := E7.2.2.2.2.2.2.free 0)
                  | fail)
                all_goals
                  have hp9 := D6.pm
                  obtain ⟨wz, hwz⟩ : ∃ wz, wz = w7.setCell ⟨T, 0, none⟩ (.slice A3 (rs.length + 1) c3) := ⟨_, rfl⟩
                  have e1 : Rd wz g bs p6 := by rw [hwz]; exact E7.1
                  have e2 : Blk wz T 30 #[.slice A3 (rs.length + 1) c3, .slice (some ⟨go, 0, none⟩) hs.length c2] := by rw [hwz]; exact E7.2.1
                  have e3 : Blk wz w.heap.size 30 #[.slice none 0 0, .slice none 0 0] := by rw [hwz]; exact E7.2.2.1
                  have e4 : Own rc 40 3 wz w.heap.size (.slice A3 (rs.length + 1) c3) (rs ++ [r]) := by rw [hwz]; exact E7.2.2.2.1
                  have e5' : Own ic 3 1 wz w.heap.size (.slice (some ⟨go, 0, none⟩) hs.length c2) hs := by rw [hwz]; exact E7.2.2.2.2.1
                  have e6 : w.grownBy wz (some g) := by rw [hwz]; exact E7.2.2.2.2.2.1
                  rw [← hwz]
                  clear hwz D6 c60 c61 c70 z70 hO7 hg7 hat7 R6 hg6 E7
                  have o0 := e3.cell 0
                  have o1 := e3.cell 1
                  have y0 := e3.free 0
                  have y1 := e3.free 1
                  have tq0 := e2.cell 0
                  have tq1 := e2.cell 1
                  go_wp2_with fail
                  refine bodyPost_ret (v := .agg #[.slice A3 (rs.length + 1) c3, .slice (some ⟨go, 0, none⟩) hs.length c2]) (by simp [results, Try.results62, go_sem, o0, o1]) rfl ⟨_, ⟨rs ++ [r], hs⟩, _, rfl, fun W' hgW => ⟨_, _, rfl, ((Own.far2 e4 e3 (by decide)).kept hgW).slr rc_len, ((Own.far2 e5' e3 (by decide)).kept hgW).slr ic_len⟩, ⟨by first | omega | (simp; done) | (simp; omega), by first | omega | (simp; done) | (simp; omega)⟩, (e1.far (by simp; omega) _).far (by simp; omega) _, by omega, only_setCell (only_setCell e6 (.inr (Nat.le_refl _)) _) (.inr (Nat.le_refl _)) _⟩
              · have e6 : (r5 == 1) = false := by simp [h1]
                have hp9 := D5.pm
                by_cases h2 : r5 = 2
                · subst h2
                  have c1' := D5.bt.cell 1
                  have z1' := D5.bt.free 1
                  have hc20 : ¬ c2 = 0 := by omega
                  have n1 := own_blk_ne D5.o1 D5.bt (by decide)
                  go_upto_region 23 with fail
                  obtain ⟨wz, hwz⟩ : ∃ wz, wz = w5.setCell ⟨T, 1, none⟩ (.slice (some ⟨go, 0, none⟩) 0 c2) := ⟨_, rfl⟩
                  have e1 : Rd wz g bs (q + 1) := by rw [hwz]; exact D5.rd.far (by simp; omega) _
                  have e2 : Blk wz T 30 #[.slice A1 rs.length c1, .slice (some ⟨go, 0, none⟩) 0 c2] := by rw [hwz]; exact D5.bt.put 1 _
                  have e3 : Blk wz w.heap.size 30 #[.slice none 0 0, .slice none 0 0] := by rw [hwz]; exact D5.bo.far (by simp; omega) _
                  have e4 : Own rc 40 3 wz w.heap.size (.slice A1 rs.length c1) rs := by rw [hwz]; exact own_far' D5.o1 n1 _
                  have e7 : w.grownBy wz (some g) := by rw [hwz]; exact only_setCell D5.fr (.inr (by simp; omega)) _
                  rw [← hwz]
                  clear hwz D5 c1' z1'
                  have o0 := e3.cell 0
                  have o1 := e3.cell 1
                  have y0 := e3.free 0
                  have y1 := e3.free 1
                  have tq0 := e2.cell 0
                  have tq1 := e2.cell 1
                  go_wp2_with fail
                  refine bodyPost_ret (v := .agg #[.slice A1 rs.length c1, .slice (some ⟨go, 0, none⟩) 0 c2]) (by simp [results, Try.results62, go_sem, o0, o1]) rfl ⟨_, ⟨rs, []⟩, _, rfl, fun W' hgW => ⟨_, _, rfl, ((Own.far2 e4 e3 (by decide)).kept hgW).slr rc_len, slr_nil⟩, ⟨by first | omega | (simp; done) | (simp; omega), by first | omega | (simp; done) | (simp; omega)⟩, (e1.far (by simp; omega) _).far (by simp; omega) _, by omega, only_setCell (only_setCell e7 (.inr (Nat.le_refl _)) _) (.inr (Nat.le_refl _)) _⟩
                · have e8 : (r5 == 2) = false := by simp [h2]
                  clear h0 h1 h2
                  have o0 := D5.bo.cell 0
                  have o1 := D5.bo.cell 1
                  have y0 := D5.bo.free 0
                  have y1 := D5.bo.free 1
                  have tq0 := D5.bt.cell 0
                  have tq1 := D5.bt.cell 1
                  go_wp2_with fail
                  refine bodyPost_ret (v := .agg #[.slice A1 rs.length c1, .slice (some ⟨go, 0, none⟩) hs.length c2]) (by simp [results, Try.results62, go_sem, o0, o1]) rfl ⟨_, ⟨rs, hs⟩, _, rfl, fun W' hgW => ⟨_, _, rfl, ((Own.far2 D5.o1 D5.bo (by decide)).kept hgW).slr rc_len, ((Own.far2 D5.o2 D5.bo (by decide)).kept hgW).slr ic_len⟩, ⟨by first | omega | (simp; done) | (simp; omega), by first | omega | (simp; done) | (simp; omega)⟩, (D5.rd.far (by simp; omega) _).far (by simp; omega) _, by omega, only_setCell (only_setCell D5.fr (.inr (Nat.le_refl _)) _) (.inr (Nat.le_refl _)) _⟩
      · have e4 : (r4 == 0) = false := by simp [h0]
        clear h0
        go_wp2
        go_loopg [7] (M) (fun gg iv wr => ∃ k : Nat, k + gg = M ∧ iv = .int .i64 k ∧ Hid (DTe w g T bs (p + 7 + 11 * k) (m + 1) wr))
        case atStart => exact ⟨0, by omega, rfl, HD3⟩
        case round =>
          obtain ⟨k, hk, rfl, HD⟩ := hrel
          obtain ⟨q, v1, v2, rs, hs, hD⟩ := HD.out
          obtain ⟨A1, c1, rfl, _, _⟩ := hD.o1.lit
          obtain ⟨A2, c2, rfl, _, _⟩ := hD.o2.lit
          clear HD3 HD
          have hpm := hD.pm
          have hl1 := hD.l1
          have hl2 := hD.l2
          have HL2 := hide hl2
          have hl5 : hs.length ≤ 4 := by omega
          have hl6 : m < hs.length := by omega
          clear hl2
          have HD := hide hD
          by_cases hlt : k < M
          · have c0 := hD.bt.cell 0
            have c1' := hD.bt.cell 1
            clear hD
            go_upto_region 13 with fail
            have hgw : g < wr.heap.size := Nat.lt_of_lt_of_le hgl HD.out.fr.size
            have hTw : T < wr.heap.size := HD.out.bt.lt
            have hnil : ∀ X : World, Blk (X.alloc (Obj.cells #[.slice none 0 0, .slice none 0 0] 30)) X.heap.size 30 #[.slice none 0 0, .slice none 0 0] := fun X => Blk.new X _ _
            have HNIL := hide hnil
            have ne3 : T ≠ wr.heap.size := by omega
            have ne4 : wr.heap.size ≠ T := by omega
            clear hnil
            go_region_held3 (fun w' => w'.cell? ⟨T, 0, none⟩ = some (.slice A1 rs.length c1) ∧ w'.cell? ⟨T, 1, none⟩ = some (.slice A2 hs.length c2)) (first | go_keep | exact ⟨D3.bt.cell 0, D3.bt.cell 1⟩ | exact ⟨D2.bt.cell 0, D2.bt.cell 1⟩ | exact ⟨(D3.below (below1 w3 _)).bt.cell 0, (D3.below (below1 w3 _)).bt.cell 1⟩ | exact ⟨(D2.below (below1 w2 _)).bt.cell 0, (D2.below (below1 w2 _)).bt.cell 1⟩ | exact ⟨D3a.bt.cell 0, D3a.bt.cell 1⟩ | fail)
              (first
                | (go_at_call 72; refine (drawRoute_any bs g q _ ?_ (by omega)).mono ?_
                   · first | exact HD.out.rd.drew | exact (HD.out.drew.below (below1 _ _)).rd
                   rintro e w2 ⟨r, p', rfl, R2, hp2, hg2⟩
                   have D2 : DT w g T bs (p + 7 + 11 * k + 10) (m + 1) w2 p' (.slice A1 rs.length c1) (.slice A2 hs.length c2) rs hs := by first | exact HD.out.drew.draw hg2 R2 hp2 hgl hgT | exact (HD.out.drew.below (below1 _ _)).draw hg2 R2 hp2 hgl hgT
                   try (have B82 : Blk w2 wr.heap.size 30 #[.slice none 0 0, .slice none 0 0] := (HNIL.out wr.drew).grown hg2 (by intro h; injection h with h; have h' : wr.heap.size = g := h; omega)))
                | (go_at_call 45; refine (specAdd_any _ ⟨rs, hs⟩ r _ ?_ ⟨by show rs.length ≤ _; omega, by show hs.length ≤ _; omega⟩).mono ?_
                   · first | exact ⟨_, _, rfl, D2.o1.slr rc_len, D2.o2.slr ic_len⟩ | exact ⟨_, _, rfl, (D2.below (below1 _ _)).o1.slr rc_len, (D2.below (below1 _ _)).o2.slr ic_len⟩
                   rintro e w3 ⟨x, rfl, hO3, hb3⟩
                   have D3 : DT w g T bs (p + 7 + 11 * k + 10) (m + 1) w3 p' (.slice A1 rs.length c1) (.slice A2 hs.length c2) rs hs := by first | exact D2.below hb3 | exact (D2.below (below1 _ _)).below hb3
                   try (have B83 := B82.up hb3; have za0 := B83.cell 0; have za1 := B83.cell 1; have za2 := B83.free 0; have za3 := B83.free 1)
                   try (have B84 := (HNIL.out w2).up hb3; have zb0 := B84.cell 0; have zb1 := B84.cell 1; have zb2 := B84.free 0; have zb3 := B84.free 1)
                   have hTw2 : T < w2.heap.size := D2.bt.lt
                   have ne1 : T ≠ w2.heap.size := by omega
                   have ne2 : w2.heap.size ≠ T := by omega
                   have t30 := D3.bt.cell 0
                   have t31 := D3.bt.cell 1
                   obtain ⟨x1, x2, rfl, hx1, hx2, hxs⟩ := hO3
                   obtain ⟨A3, c3, rfl, _, _⟩ := hx1.lit
                   obtain ⟨A4, c4, rfl, _, _⟩ := hx2.lit)
                | fail)
            · have B4 : Blk (w3.alloc (Obj.cells #[.slice A3 (addT ⟨rs, hs⟩ r).1.routes.length c3, .slice A4 (addT ⟨rs, hs⟩ r).1.hops.length c4] 30)) w3.heap.size 30 #[.slice A3 (addT ⟨rs, hs⟩ r).1.routes.length c3, .slice A4 (addT ⟨rs, hs⟩ r).1.hops.length c4] := Blk.new _ _ _
              have D4 : DT w g T bs (p + 7 + 11 * k + 10) (m + 1) (w3.alloc (Obj.cells #[.slice A3 (addT ⟨rs, hs⟩ r).1.routes.length c3, .slice A4 (addT ⟨rs, hs⟩ r).1.hops.length c4] 30)) p' (.slice A1 rs.length c1) (.slice A2 hs.length c2) rs hs := D3.below (below1 w3 (Obj.cells #[.slice A3 (addT ⟨rs, hs⟩ r).1.routes.length c3, .slice A4 (addT ⟨rs, hs⟩ r).1.hops.length c4] 30))
              have hy1 : Own rc 40 3 (w3.alloc (Obj.cells #[.slice A3 (addT ⟨rs, hs⟩ r).1.routes.length c3, .slice A4 (addT ⟨rs, hs⟩ r).1.hops.length c4] 30)) w.heap.size (.slice A3 (addT ⟨rs, hs⟩ r).1.routes.length c3) (addT ⟨rs, hs⟩ r).1.routes := (hx1.below (below1 w3 (Obj.cells #[.slice A3 (addT ⟨rs, hs⟩ r).1.routes.length c3, .slice A4 (addT ⟨rs, hs⟩ r).1.hops.length c4] 30))).low D2.fr.size
              have hy2 : Own ic 3 1 (w3.alloc (Obj.cells #[.slice A3 (addT ⟨rs, hs⟩ r).1.routes.length c3, .slice A4 (addT ⟨rs, hs⟩ r).1.hops.length c4] 30)) w.heap.size (.slice A4 (addT ⟨rs, hs⟩ r).1.hops.length c4) (addT ⟨rs, hs⟩ r).1.hops := (hx2.below (below1 w3 (Obj.cells #[.slice A3 (addT ⟨rs, hs⟩ r).1.routes.length c3, .slice A4 (addT ⟨rs, hs⟩ r).1.hops.length c4] 30))).low D2.fr.size
              obtain ⟨wz, hwz⟩ : ∃ wz, wz = w3.alloc (Obj.cells #[.slice A3 (addT ⟨rs, hs⟩ r).1.routes.length c3, .slice A4 (addT ⟨rs, hs⟩ r).1.hops.length c4] 30) := ⟨_, rfl⟩
              rw [← hwz] at B4 D4 hy1 hy2 ⊢
              obtain ⟨X, hX⟩ : ∃ X, X = w3.heap.size := ⟨_, rfl⟩
              rw [← hX] at B4 ⊢
              clear hwz hX
              cases hok : (addT ⟨rs, hs⟩ r).2 with
              | false =>
                have HDN := hide (show DTe w g T bs (p + 7 + 11 * (k + 1)) (m + 1) wz from ⟨_, _, _, _, _, ⟨D4.rd, by have := D4.pm; omega, D4.bt, D4.bo, D4.o1, D4.o2, D4.l1, D4.l2, D4.fr⟩⟩)
                clear hok
                clear D2 D3 D4 B4 hy1 hy2 hx1 hx2 hxs
                go_wp2
                go_roundg (gk - 1)
                case measure => omega
                case rel => exact ⟨k + 1, by omega, by go_num, HDN⟩
              | true =>
                obtain ⟨hV, hRV, hlen, hadd⟩ := addT_ok hok
                have hrl : (addT ⟨rs, hs⟩ r).1.routes.length ≤ 10 := by rw [hadd]; exact hlen
                have hhl : (addT ⟨rs, hs⟩ r).1.hops.length = m + 1 := by rw [hadd]; exact HL2.out
                have D5 := D4.put hy1 hy2 hrl hhl hgT hwT
                have HDN := hide (show DTe w g T bs (p + 7 + 11 * (k + 1)) (m + 1) _ from ⟨_, _, _, _, _, ⟨D5.rd, by have := D5.pm; omega, D5.bt, D5.bo, D5.o1, D5.o2, D5.l1, D5.l2, D5.fr⟩⟩)
                have q0 := B4.cell 0
                have q1 := B4.cell 1
                have s0 := D4.bt.cell 0
                have s1 := D4.bt.cell 1
                have s2 := D4.bt.free 0
                have s3 := D4.bt.free 1
                clear hok hadd hrl hhl D2 D3 D4 D5 B4 hy1 hy2 hx1 hx2 hxs
                go_wp2
                go_roundg (gk - 1)
                case measure => omega
                case rel => exact ⟨k + 1, by omega, by go_num, HDN⟩
            · have B4 : Blk ((w3.setCell ⟨w2.heap.size, 0, none⟩ (.slice A3 (addT ⟨rs, hs⟩ r).1.routes.length c3)).setCell ⟨w2.heap.size, 1, none⟩ (.slice A4 (addT ⟨rs, hs⟩ r).1.hops.length c4)) w2.heap.size 30 #[.slice A3 (addT ⟨rs, hs⟩ r).1.routes.length c3, .slice A4 (addT ⟨rs, hs⟩ r).1.hops.length c4] := (B84.put 0 _).put 1 _
              have D4 : DT w g T bs (p + 7 + 11 * k + 10) (m + 1) ((w3.setCell ⟨w2.heap.size, 0, none⟩ (.slice A3 (addT ⟨rs, hs⟩ r).1.routes.length c3)).setCell ⟨w2.heap.size, 1, none⟩ (.slice A4 (addT ⟨rs, hs⟩ r).1.hops.length c4)) p' (.slice A1 rs.length c1) (.slice A2 hs.length c2) rs hs := D3.scratch B84 hTw2 hgT hwT
              have hy1 : Own rc 40 3 ((w3.setCell ⟨w2.heap.size, 0, none⟩ (.slice A3 (addT ⟨rs, hs⟩ r).1.routes.length c3)).setCell ⟨w2.heap.size, 1, none⟩ (.slice A4 (addT ⟨rs, hs⟩ r).1.hops.length c4)) w.heap.size (.slice A3 (addT ⟨rs, hs⟩ r).1.routes.length c3) (addT ⟨rs, hs⟩ r).1.routes := own_far' (own_far' (hx1.low (by have := D2.fr.size; simp; omega)) (own_blk_ne hx1 B84 (by decide)) _) (own_blk_ne hx1 B84 (by decide)) _
              have hy2 : Own ic 3 1 ((w3.setCell ⟨w2.heap.size, 0, none⟩ (.slice A3 (addT ⟨rs, hs⟩ r).1.routes.length c3)).setCell ⟨w2.heap.size, 1, none⟩ (.slice A4 (addT ⟨rs, hs⟩ r).1.hops.length c4)) w.heap.size (.slice A4 (addT ⟨rs, hs⟩ r).1.hops.length c4) (addT ⟨rs, hs⟩ r).1.hops := own_far' (own_far' (hx2.low (by have := D2.fr.size; simp; omega)) (own_blk_ne hx2 B84 (by decide)) _) (own_blk_ne hx2 B84 (by decide)) _
              obtain ⟨wz, hwz⟩ : ∃ wz, wz = (w3.setCell ⟨w2.heap.size, 0, none⟩ (.slice A3 (addT ⟨rs, hs⟩ r).1.routes.length c3)).setCell ⟨w2.heap.size, 1, none⟩ (.slice A4 (addT ⟨rs, hs⟩ r).1.hops.length c4) := ⟨_, rfl⟩
              rw [← hwz] at B4 D4 hy1 hy2 ⊢
              obtain ⟨X, hX⟩ : ∃ X, X = w2.heap.size := ⟨_, rfl⟩
              rw [← hX] at B4 ⊢
              clear hwz hX
              cases hok : (addT ⟨rs, hs⟩ r).2 with
              | false =>
                have HDN := hide (show DTe w g T bs (p + 7 + 11 * (k + 1)) (m + 1) wz from ⟨_, _, _, _, _, ⟨D4.rd, by have := D4.pm; omega, D4.bt, D4.bo, D4.o1, D4.o2, D4.l1, D4.l2, D4.fr⟩⟩)
                clear hok
                clear D2 D3 D4 B4 hy1 hy2 hx1 hx2 hxs
                go_wp2
                go_roundg (gk - 1)
                case measure => omega
                case rel => exact ⟨k + 1, by omega, by go_num, HDN⟩
              | true =>
                obtain ⟨hV, hRV, hlen, hadd⟩ := addT_ok hok
                have hrl : (addT ⟨rs, hs⟩ r).1.routes.length ≤ 10 := by rw [hadd]; exact hlen
                have hhl : (addT ⟨rs, hs⟩ r).1.hops.length = m + 1 := by rw [hadd]; exact HL2.out
                have D5 := D4.put hy1 hy2 hrl hhl hgT hwT
                have HDN := hide (show DTe w g T bs (p + 7 + 11 * (k + 1)) (m + 1) _ from ⟨_, _, _, _, _, ⟨D5.rd, by have := D5.pm; omega, D5.bt, D5.bo, D5.o1, D5.o2, D5.l1, D5.l2, D5.fr⟩⟩)
                have q0 := B4.cell 0
                have q1 := B4.cell 1
                have s0 := D4.bt.cell 0
                have s1 := D4.bt.cell 1
                have s2 := D4.bt.free 0
                have s3 := D4.bt.free 1
                clear hok hadd hrl hhl D2 D3 D4 D5 B4 hy1 hy2 hx1 hx2 hxs
                go_wp2
                go_roundg (gk - 1)
                case measure => omega
                case rel => exact ⟨k + 1, by omega, by go_num, HDN⟩
            · have B4 : Blk ((w3.setCell ⟨wr.heap.size, 0, none⟩ (.slice A3 (addT ⟨rs, hs⟩ r).1.routes.length c3)).setCell ⟨wr.heap.size, 1, none⟩ (.slice A4 (addT ⟨rs, hs⟩ r).1.hops.length c4)) wr.heap.size 30 #[.slice A3 (addT ⟨rs, hs⟩ r).1.routes.length c3, .slice A4 (addT ⟨rs, hs⟩ r).1.hops.length c4] := (B83.put 0 _).put 1 _
              have D4 : DT w g T bs (p + 7 + 11 * k + 10) (m + 1) ((w3.setCell ⟨wr.heap.size, 0, none⟩ (.slice A3 (addT ⟨rs, hs⟩ r).1.routes.length c3)).setCell ⟨wr.heap.size, 1, none⟩ (.slice A4 (addT ⟨rs, hs⟩ r).1.hops.length c4)) p' (.slice A1 rs.length c1) (.slice A2 hs.length c2) rs hs := D3.scratch B83 hTw hgT hwT
              have hy1 : Own rc 40 3 ((w3.setCell ⟨wr.heap.size, 0, none⟩ (.slice A3 (addT ⟨rs, hs⟩ r).1.routes.length c3)).setCell ⟨wr.heap.size, 1, none⟩ (.slice A4 (addT ⟨rs, hs⟩ r).1.hops.length c4)) w.heap.size (.slice A3 (addT ⟨rs, hs⟩ r).1.routes.length c3) (addT ⟨rs, hs⟩ r).1.routes := own_far' (own_far' (hx1.low D2.fr.size) (own_blk_ne hx1 B83 (by decide)) _) (own_blk_ne hx1 B83 (by decide)) _
              have hy2 : Own ic 3 1 ((w3.setCell ⟨wr.heap.size, 0, none⟩ (.slice A3 (addT ⟨rs, hs⟩ r).1.routes.length c3)).setCell ⟨wr.heap.size, 1, none⟩ (.slice A4 (addT ⟨rs, hs⟩ r).1.hops.length c4)) w.heap.size (.slice A4 (addT ⟨rs, hs⟩ r).1.hops.length c4) (addT ⟨rs, hs⟩ r).1.hops := own_far' (own_far' (hx2.low D2.fr.size) (own_blk_ne hx2 B83 (by decide)) _) (own_blk_ne hx2 B83 (by decide)) _
              obtain ⟨wz, hwz⟩ : ∃ wz, wz = (w3.setCell ⟨wr.heap.size, 0, none⟩ (.slice A3 (addT ⟨rs, hs⟩ r).1.routes.length c3)).setCell ⟨wr.heap.size, 1, none⟩ (.slice A4 (addT ⟨rs, hs⟩ r).1.hops.length c4) := ⟨_, rfl⟩
              rw [← hwz] at B4 D4 hy1 hy2 ⊢
              obtain ⟨X, hX⟩ : ∃ X, X = wr.heap.size := ⟨_, rfl⟩
              rw [← hX] at B4 ⊢
              clear hwz hX
              cases hok : (addT ⟨rs, hs⟩ r).2 with
              | false =>
                have HDN := hide (show DTe w g T bs (p + 7 + 11 * (k + 1)) (m + 1) wz from ⟨_, _, _, _, _, ⟨D4.rd, by have := D4.pm; omega, D4.bt, D4.bo, D4.o1, D4.o2, D4.l1, D4.l2, D4.fr⟩⟩)
                clear hok
                clear D2 D3 D4 B4 hy1 hy2 hx1 hx2 hxs
                go_wp2
                go_roundg (gk - 1)
                case measure => omega
                case rel => exact ⟨k + 1, by omega, by go_num, HDN⟩
              | true =>
                obtain ⟨hV, hRV, hlen, hadd⟩ := addT_ok hok
                have hrl : (addT ⟨rs, hs⟩ r).1.routes.length ≤ 10 := by rw [hadd]; exact hlen
                have hhl : (addT ⟨rs, hs⟩ r).1.hops.length = m + 1 := by rw [hadd]; exact HL2.out
                have D5 := D4.put hy1 hy2 hrl hhl hgT hwT
                have HDN := hide (show DTe w g T bs (p + 7 + 11 * (k + 1)) (m + 1) _ from ⟨_, _, _, _, _, ⟨D5.rd, by have := D5.pm; omega, D5.bt, D5.bo, D5.o1, D5.o2, D5.l1, D5.l2, D5.fr⟩⟩)
                have q0 := B4.cell 0
                have q1 := B4.cell 1
                have s0 := D4.bt.cell 0
                have s1 := D4.bt.cell 1
                have s2 := D4.bt.free 0
                have s3 := D4.bt.free 1
                clear hok hadd hrl hhl D2 D3 D4 D5 B4 hy1 hy2 hx1 hx2 hxs
                go_wp2
                go_roundg (gk - 1)
                case measure => omega
                case rel => exact ⟨k + 1, by omega, by go_num, HDN⟩
          · have hMk : k ≤ M := by omega
            obtain ⟨go, cpg, hx, hgo1, hgo2⟩ := hD.o2.form (by omega)
            have hA : A2 = some ⟨go, 0, none⟩ := by injection hx
            subst hA
            clear hx HD
            go_wp2_with fail
            refine (pick_any bs g q _ _ hD.rd (by omega)).mono ?_
            rintro e w5 ⟨r5, rfl, hr5, R5, hg5⟩
            have D5 := hD.pick hg5 R5 hgl hgT
            clear hD hg5 R5
            by_cases h0 : r5 = 0
            · subst h0
              have c1' := D5.bt.cell 1
              have hgT2 : go ≠ T := fun e => own_blk_ne D5.o2 D5.bt (by decide) (by rw [e]; rfl)
              have hgT3 : T ≠ go := Ne.symm hgT2
              have HD5 := hide D5
              clear D5
              go_upto_region 18 with fail
              go_region_held3 (fun w' => w'.cell? ⟨T, 1, none⟩ = some (.slice (some ⟨go, 0, none⟩) hs.length c2)) (first | go_keep | exact D7.bt.cell 1 | exact D6.bt.cell 1 | fail)
                (first
                  | (go_at_call 64; refine (pick_any bs g (q + 1 + 1) _ _ D6.rd (by omega)).mono ?_; rintro e w7 ⟨r7, rfl, ⟨h70, h71⟩, R7, hg7⟩
                     have h72 := h71 (by omega)
                     have ew1 : IntKind.i64.wrap (r7 * 9) = r7 * 9 := by rw [IntKind.wrap_i64]; omega
                     have ew2 : IntKind.i64.wrap (r7 * 9 - 1) = r7 * 9 - 1 := by rw [IntKind.wrap_i64]; omega
                     have D7 := D6.pick hg7 R7 hgl hgT
                     have t71 := D7.bt.cell 1
                     obtain ⟨⟨u0, q0⟩, z0⟩ := D7.o2.slot (k := i6) (j := 0) rfl (by omega) (by decide)
                     rw [Nat.mul_one, Nat.add_zero] at q0 z0)
                  | (go_at_call 64; refine (pick_any bs g (q + 1) _ _ HD5.out.rd.drew (by omega)).mono ?_; rintro e w6 ⟨r6, rfl, ⟨h60, h61⟩, R6, hg6⟩
                     have h62 := h61 (by omega)
                     have D6 := HD5.out.drew.pick hg6 R6 hgl hgT
                     obtain ⟨i6, rfl⟩ := Int.eq_ofNat_of_zero_le h60
                     have h63 : i6 < hs.length := by omega
                     have h64 : (i6 : Int) < (hs.length : Int) := by omega
                     clear h61)
                  | fail)
              obtain ⟨x0, hx0⟩ := get_some (l := hs) (i := i6) (by omega)
              have D8 := D7.setI (z := r7 * 9 - 1) hx0 hgl
              obtain ⟨wz, hwz⟩ : ∃ wz, wz = w7.setCell ⟨go, i6, none⟩ (.int .i64 (r7 * 9 - 1)) := ⟨_, rfl⟩
              rw [← hwz] at D8 ⊢
              have hl9 : (hs.set i6 (r7 * 9 - 1)).length ≤ 4 := by simpa using hl5
              have hp9 := D8.pm
              clear hwz D6 D7 q0 z0 t71 hx0 R6 R7 hg6 hg7 h71 ew1 ew2
              have o0 := D8.bo.cell 0
              have o1 := D8.bo.cell 1
              have y0 := D8.bo.free 0
              have y1 := D8.bo.free 1
              have tq0 := D8.bt.cell 0
              have tq1 := D8.bt.cell 1
              go_wp2_with fail
              refine bodyPost_ret (v := .agg #[.slice A1 rs.length c1, .slice (some ⟨go, 0, none⟩) hs.length c2]) (by simp [results, Try.results62, go_sem, o0, o1]) rfl ⟨_, ⟨rs, hs.set i6 (r7 * 9 - 1)⟩, _, rfl, fun W' hgW => ⟨_, _, rfl, ((Own.far2 D8.o1 D8.bo (by decide)).kept hgW).slr rc_len, ((Own.far2 D8.o2 D8.bo (by decide)).kept hgW).slr ic_len⟩, ⟨by first | omega | (simp; done) | (simp; omega), by first | omega | (simp; done) | (simp; omega)⟩, (D8.rd.far (by simp; omega) _).far (by simp; omega) _, by omega, only_setCell (only_setCell D8.fr (.inr (Nat.le_refl _)) _) (.inr (Nat.le_refl _)) _⟩
            · have e5 : (r5 == 0) = false := by simp [h0]
              by_cases h1 : r5 = 1
              · subst h1
                have c0' := D5.bt.cell 0
                have HD5 := hide D5
                clear D5 h0
                go_upto_region 20 with fail
                go_region_law (first
                  | (go_simp; go_at_call 72; refine (drawRoute_any bs g (q + 1) _ HD5.out.rd.drew (by omega)).mono ?_; rintro e w6 ⟨r, p6, rfl, R6, hp6, hg6⟩
                     have D6 := HD5.out.drew.draw hg6 R6 hp6 hgl hgT
                     have c60 := D6.bt.cell 0
                     have c61 := fun o => (D6.below (below1 w6 o)).bt.cell 0)
                  | (refine step_app (by rfl) infR (.tmp 64) (.tmp 67) (by rfl) _ _ (by rfl) (by rfl) w.heap.size (w6.heap.size + 1) rs [r] ?_ ?_ ?_ ?_ ?_
                     · exact D6.o1.below (below1 _ _)
                     · exact slr_one (Blk.new w6 40 #[.int .i64 r.pre, .int .i64 r.bits, .int .i64 r.hop]) rfl (by omega)
                     · simp; omega
                     · have := D6.fr.size; simp; omega
                     intro A3 c3 w7 hO7 hg7 hat7
                     have E7 := (D6.below (below1 w6 (Obj.cells #[.int .i64 r.pre, .int .i64 r.bits, .int .i64 r.hop] 40))).appR hg7 hO7 hgl hwT
                     have c70 := E7.2.2.2.2.2.2.cell 0
                     have z70 := E7.2.2.2.2.2.2.free 0)
                  | fail)
                all_goals
                  have hp9 := D6.pm
                  obtain ⟨wz, hwz⟩ : ∃ wz, wz = w7.setCell ⟨T, 0, none⟩ (.slice A3 (rs.length + 1) c3) := ⟨_, rfl⟩
                  have e1 : Rd wz g bs p6 := by rw [hwz]; exact E7.1
                  have e2 : Blk wz T 30 #[.slice A3 (rs.length + 1) c3, .slice (some ⟨go, 0, none⟩) hs.length c2] := by rw [hwz]; exact E7.2.1
                  have e3 : Blk wz w.heap.size 30 #[.slice none 0 0, .slice none 0 0] := by rw [hwz]; exact E7.2.2.1
                  have e4 : Own rc 40 3 wz w.heap.size (.slice A3 (rs.length + 1) c3) (rs ++ [r]) := by rw [hwz]; exact E7.2.2.2.1
                  have e5' : Own ic 3 1 wz w.heap.size (.slice (some ⟨go, 0, none⟩) hs.length c2) hs := by rw [hwz]; exact E7.2.2.2.2.1
                  have e6 : w.grownBy wz (some g) := by rw [hwz]; exact E7.2.2.2.2.2.1
                  rw [← hwz]
                  clear hwz D6 c60 c61 c70 z70 hO7 hg7 hat7 R6 hg6 E7
                  have o0 := e3.cell 0
                  have o1 := e3.cell 1
                  have y0 := e3.free 0
                  have y1 := e3.free 1
                  have tq0 := e2.cell 0
                  have tq1 := e2.cell 1
                  go_wp2_with fail
                  refine bodyPost_ret (v := .agg #[.slice A3 (rs.length + 1) c3, .slice (some ⟨go, 0, none⟩) hs.length c2]) (by simp [results, Try.results62, go_sem, o0, o1]) rfl ⟨_, ⟨rs ++ [r], hs⟩, _, rfl, fun W' hgW => ⟨_, _, rfl, ((Own.far2 e4 e3 (by decide)).kept hgW).slr rc_len, ((Own.far2 e5' e3 (by decide)).kept hgW).slr ic_len⟩, ⟨by first | omega | (simp; done) | (simp; omega), by first | omega | (simp; done) | (simp; omega)⟩, (e1.far (by simp; omega) _).far (by simp; omega) _, by omega, only_setCell (only_setCell e6 (.inr (Nat.le_refl _)) _) (.inr (Nat.le_refl _)) _⟩
              · have e6 : (r5 == 1) = false := by simp [h1]
                have hp9 := D5.pm
                by_cases h2 : r5 = 2
                · subst h2
                  have c1' := D5.bt.cell 1
                  have z1' := D5.bt.free 1
                  have hc20 : ¬ c2 = 0 := by omega
                  have n1 := own_blk_ne D5.o1 D5.bt (by decide)
                  go_upto_region 23 with fail
                  obtain ⟨wz, hwz⟩ : ∃ wz, wz = w5.setCell ⟨T, 1, none⟩ (.slice (some ⟨go, 0, none⟩) 0 c2) := ⟨_, rfl⟩
                  have e1 : Rd wz g bs (q + 1) := by rw [hwz]; exact D5.rd.far (by simp; omega) _
                  have e2 : Blk wz T 30 #[.slice A1 rs.length c1, .slice (some ⟨go, 0, none⟩) 0 c2] := by rw [hwz]; exact D5.bt.put 1 _
                  have e3 : Blk wz w.heap.size 30 #[.slice none 0 0, .slice none 0 0] := by rw [hwz]; exact D5.bo.far (by simp; omega) _
                  have e4 : Own rc 40 3 wz w.heap.size (.slice A1 rs.length c1) rs := by rw [hwz]; exact own_far' D5.o1 n1 _
                  have e7 : w.grownBy wz (some g) := by rw [hwz]; exact only_setCell D5.fr (.inr (by simp; omega)) _
                  rw [← hwz]
                  clear hwz D5 c1' z1'
                  have o0 := e3.cell 0
                  have o1 := e3.cell 1
                  have y0 := e3.free 0
                  have y1 := e3.free 1
                  have tq0 := e2.cell 0
                  have tq1 := e2.cell 1
                  go_wp2_with fail
                  refine bodyPost_ret (v := .agg #[.slice A1 rs.length c1, .slice (some ⟨go, 0, none⟩) 0 c2]) (by simp [results, Try.results62, go_sem, o0, o1]) rfl ⟨_, ⟨rs, []⟩, _, rfl, fun W' hgW => ⟨_, _, rfl, ((Own.far2 e4 e3 (by decide)).kept hgW).slr rc_len, slr_nil⟩, ⟨by first | omega | (simp; done) | (simp; omega), by first | omega | (simp; done) | (simp; omega)⟩, (e1.far (by simp; omega) _).far (by simp; omega) _, by omega, only_setCell (only_setCell e7 (.inr (Nat.le_refl _)) _) (.inr (Nat.le_refl _)) _⟩
                · have e8 : (r5 == 2) = false := by simp [h2]
                  clear h0 h1 h2
                  have o0 := D5.bo.cell 0
                  have o1 := D5.bo.cell 1
                  have y0 := D5.bo.free 0
                  have y1 := D5.bo.free 1
                  have tq0 := D5.bt.cell 0
                  have tq1 := D5.bt.cell 1
                  go_wp2_with fail
                  refine bodyPost_ret (v := .agg #[.slice A1 rs.length c1, .slice (some ⟨go, 0, none⟩) hs.length c2]) (by simp [results, Try.results62, go_sem, o0, o1]) rfl ⟨_, ⟨rs, hs⟩, _, rfl, fun W' hgW => ⟨_, _, rfl, ((Own.far2 D5.o1 D5.bo (by decide)).kept hgW).slr rc_len, ((Own.far2 D5.o2 D5.bo (by decide)).kept hgW).slr ic_len⟩, ⟨by first | omega | (simp; done) | (simp; omega), by first | omega | (simp; done) | (simp; omega)⟩, (D5.rd.far (by simp; omega) _).far (by simp; omega) _, by omega, only_setCell (only_setCell D5.fr (.inr (Nat.le_refl _)) _) (.inr (Nat.le_refl _)) _⟩
end Go.Proofs.Ytlkchocjldllgaa
