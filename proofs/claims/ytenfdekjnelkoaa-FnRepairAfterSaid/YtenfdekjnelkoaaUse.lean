/- use, stackNodes, StackEnd and StackCrosses of the program, where all labels lead somewhere. Conditions: the graph is valid, at most 8 labels. -/
import Derived.Test.YtenfdekjnelkoaaHopI
import Derived.Test.YtenfdekjnelkoaaLb
import Derived.Test.YtenfdekjnelkoaaPathI
import Derived.Test.YtenfdekjnelkoaaSafeW
import Derived.Deep.RegionHeld3
namespace Go.Proofs.Ytenfdekjnelkoaa
open Go.RowKit

/-- Label b leads from x to z. -/
def StL (g : Gr) (x : Int) (b : Lb) (z : Int) : Prop :=
  (b.k = 1 ∧ b.a = z ∧ Nd g x ∧ Nd g z ∧ 0 ≤ D g x z) ∨ (b.k = 2 ∧ ∃ (j : Nat) (m : Lk), b.a = (j : Int) ∧ g.ls[j]? = some m ∧ Jn m x z)
/-- The nodes L of the stack S from x. -/
inductive Sn (g : Gr) : Int → List Lb → List Int → Prop
  | nil {x : Int} : Nd g x → Sn g x [] [x]
  | cons {x z : Int} {b : Lb} {S : List Lb} {L : List Int} : StL g x b z → Sn g z S L → Sn g x (b :: S) (x :: L)
theorem StL.nd {g : Gr} (hg : GV g) {x z : Int} {b : Lb} (h : StL g x b z) : Nd g x ∧ Nd g z := by
  rcases h with ⟨_, _, h1, h2, _⟩ | ⟨_, j, m, _, hm, hj⟩
  · exact ⟨h1, h2⟩
  · have hv := hg.lv (List.mem_of_getElem? hm)
    rcases hj with ⟨rfl, rfl⟩ | ⟨rfl, rfl⟩
    · exact ⟨hv.1, hv.2.1⟩
    · exact ⟨hv.2.1, hv.1⟩
section
variable {g : Gr} {x : Int} {S : List Lb} {L : List Int}
theorem Sn.len (h : Sn g x S L) : L.length = S.length + 1 := by
  induction h with
  | nil => rfl
  | cons h1 h2 ih => simp [ih]
theorem Sn.head (h : Sn g x S L) : L[0]? = some x := by cases h <;> rfl
theorem Sn.ndx (hg : GV g) (h : Sn g x S L) : Nd g x := by
  cases h with
  | nil h => exact h
  | cons h1 h2 => exact (h1.nd hg).1
theorem Sn.at (h : Sn g x S L) : ∀ {i : Nat} {b : Lb}, S[i]? = some b → ∃ a z, L[i]? = some a ∧ L[i + 1]? = some z ∧ StL g a b z := by
  induction h with
  | nil => intro i b hb; simp at hb
  | cons h1 h2 ih =>
    intro i b hb
    cases i with
    | zero =>
      simp at hb
      subst hb
      exact ⟨_, _, rfl, by simpa using h2.head, h1⟩
    | succ i =>
      obtain ⟨a, z, ha, hz, hs⟩ := ih (by simpa using hb)
      exact ⟨a, z, by simpa using ha, by simpa using hz, hs⟩
theorem Sn.end (h : Sn g x S L) : ∃ y, L[S.length]? = some y := ⟨_, List.getElem?_eq_getElem (by have := h.len; omega)⟩
end
/-- A good stack leads to y, label by label, over safe nodes and other links. -/
theorem Good.sn {g : Gr} {k : Nat} {l : Lk} {x y : Int} {S : List Lb} (hy : Nd g y) (h : Good g k l y x S) :
    ∃ L, Sn g x S L ∧ L[S.length]? = some y ∧ ∀ (i : Nat) (b : Lb) (a z : Int), S[i]? = some b → L[i]? = some a → L[i + 1]? = some z →
      (b.k = 1 ∧ b.a = z ∧ Nd g a ∧ Nd g z ∧ Sf g l a z) ∨ (b.k = 2 ∧ ∃ (j : Nat) (m : Lk), b.a = (j : Int) ∧ g.ls[j]? = some m ∧ j ≠ k ∧ Jn m a z) := by
  induction h with
  | nil => exact ⟨_, .nil hy, rfl, fun i b a z hb => by simp at hb⟩
  | node h1 h2 h3 h4 ih =>
    obtain ⟨L, e1, e2, e3⟩ := ih
    refine ⟨_, .cons (.inl ⟨rfl, rfl, h1, h2, h3.1⟩) e1, by simpa using e2, fun i b a z hb ha hz => ?_⟩
    cases i with
    | zero =>
      simp at hb ha hz
      subst hb; subst ha
      have := e1.head
      rw [hz] at this
      cases this
      exact .inl ⟨rfl, rfl, h1, h2, h3⟩
    | succ i => exact e3 i b a z (by simpa using hb) (by simpa using ha) (by simpa using hz)
  | link h1 h2 h3 h4 ih =>
    obtain ⟨L, e1, e2, e3⟩ := ih
    refine ⟨_, .cons (.inr ⟨rfl, _, _, rfl, h1, h3⟩) e1, by simpa using e2, fun i b a z hb ha hz => ?_⟩
    cases i with
    | zero =>
      simp at hb ha hz
      subst hb; subst ha
      have := e1.head
      rw [hz] at this
      cases this
      exact .inr ⟨rfl, _, _, rfl, h1, h2, h3⟩
    | succ i => exact e3 i b a z (by simpa using hb) (by simpa using ha) (by simpa using hz)
/-- What a label costs. -/
noncomputable def cst (g : Gr) (a : Int) (b : Lb) (z : Int) : Int := if b.k = 1 then D g a z else costOf g b.a
/-- The cost of the first i labels. -/
noncomputable def cTo (g : Gr) (S : List Lb) (L : List Int) : Nat → Int
  | 0 => 0
  | i + 1 => cTo g S L i + (match S[i]?, L[i]?, L[i + 1]? with
    | some b, some a, some z => cst g a b z
    | _, _, _ => 0)
theorem cTo_succ {g : Gr} {S : List Lb} {L : List Int} {i : Nat} {b : Lb} {a z : Int} (hb : S[i]? = some b) (ha : L[i]? = some a) (hz : L[i + 1]? = some z) : cTo g S L (i + 1) = cTo g S L i + cst g a b z := by
  show cTo g S L i + _ = _
  rw [hb, ha, hz]


theorem oth_jn {l : Lk} {n m : Int} (hlt : l.a < l.b) (h : Jn l n m) : othL l n = some m := (othL_iff hlt).2 h
set_option maxRecDepth 100000 in
set_option maxHeartbeats 1600000 in
set_option linter.unusedSimpArgs false in
theorem use_any (v : Value) (g : Gr) (x z : Int) (b : Lb) (w : World) (hv : GrR w w.heap.size v g) (hg : GV g) (hs : StL g x b z) :
    Calls Try.prog 90 #[v, .int .i64 x, .agg #[.int .i64 b.k, .int .i64 b.a]] w fun e w' => e = .returned (.tuple #[.int .i64 z, .bool true]) ∧ Below w.heap.size w w' := by
  have hvv := hv
  obtain ⟨A, cap, rfl, hc, hr⟩ := hv.form
  obtain ⟨bk, ba⟩ := b
  obtain ⟨B, hB⟩ : ∃ B, B = w.heap.size := ⟨_, rfl⟩
  obtain ⟨wb, hwb⟩ : ∃ wb, wb = (w.alloc (Obj.cells #[.int .i64 g.n, .slice A g.ls.length cap] 25)).alloc (Obj.cells #[.int .i64 bk, .int .i64 ba] 57) := ⟨_, rfl⟩
  have hbw : Below w.heap.size w wb := by rw [hwb]; exact below2 _ _ _
  have HB : Hid (Blk wb B 25 #[.int .i64 g.n, .slice A g.ls.length cap]) := hide (by rw [hwb, hB]; exact (Blk.new _ _ _).alloc _)
  have HL : Hid (Blk wb (B + 1) 57 #[.int .i64 bk, .int .i64 ba]) := hide (by rw [hwb, hB]; exact Blk.new1 _ _ _ _)
  have HV := hide (hvv.up hbw)
  have HG := hide hg
  have hn := hg.n
  have hlen := hg.len
  have c0 := HB.out.cell 0
  have c1 := HB.out.cell 1
  have c2 := HL.out.cell 0
  have c3 := HL.out.cell 1
  clear hvv hv hg
  rcases hs with ⟨hk, ha, hx, hz, hd⟩ | ⟨hk, j, m, ha, hm, hj⟩
  · simp only at hk ha
    subst hk
    subst ha
    obtain ⟨nz, rfl⟩ := Int.eq_ofNat_of_zero_le hz.1
    have hzl := hz.2
    have HX := hide hx
    obtain ⟨p, hp⟩ : ∃ p, p = D g x nz := ⟨_, rfl⟩
    have hp0 : 0 ≤ p := by rw [hp]; exact hd
    have HP := hide hp
    have n1 : decide (0 ≤ p) = true := decide_eq_true hp0
    have hw1 : IntKind.i64.wrap (g.n - 1) = g.n - 1 := by rw [IntKind.wrap_i64]; omega
    have hwi : (0 : Int) ≤ (nz : Int) ∧ (nz : Int) ≤ g.n - 1 := ⟨by omega, by omega⟩
    have HC : Hid (∀ X, Below wb.heap.size wb X → X.cell? ⟨B, 0, none⟩ = some (.int .i64 g.n) ∧ X.cell? ⟨B, 1, none⟩ = some (.slice A g.ls.length cap) ∧ X.cell? ⟨B + 1, 0, none⟩ = some (.int .i64 1) ∧ X.cell? ⟨B + 1, 1, none⟩ = some (.int .i64 nz)) :=
      hide fun X hX => ⟨(HB.out.up hX).cell 0, (HB.out.up hX).cell 1, (HL.out.up hX).cell 0, (HL.out.up hX).cell 1⟩
    obtain ⟨N, hN⟩ : ∃ N, N = g.n.toNat := ⟨_, rfl⟩
    have hzN : nz < N := by omega
    have HN := hide hN
    clear hx hz hd hp hr hN
    go_enter Try.func90, Try.ntmps90
    go_upto_region 3 with fail
    rw [← hwb, ← hB]
    clear hwb hB
    have hd0 := (Below.refl wb.heap.size wb).drew
    refine wp_region_noPanic ?_
    refine wp_region_held_drew (S := (fun X => X.cell? ⟨B, 0, none⟩ = some (.int .i64 g.n) ∧ X.cell? ⟨B, 1, none⟩ = some (.slice A g.ls.length cap) ∧ X.cell? ⟨B + 1, 0, none⟩ = some (.int .i64 1) ∧ X.cell? ⟨B + 1, 1, none⟩ = some (.int .i64 nz))) (by kernel_rfl) ?_ (fun hHeld => ?_)
    · exact HC.out _ hd0
    refine wpAnyH_take (i := 0) (v := ?_) rfl (by kernel_rfl) (by kernel_rfl) (by kernel_rfl) (fun _ _ _ h => h) (Or.inl ⟨by rfl, ?_⟩) (by assumption) ?_
    rotate_left
    · intro wS hSw
      try dsimp only at hSw
      go_simp
      try (with_reducible rfl)
    try simp only [List.getElem_toArray, List.getElem_cons_succ, List.getElem_cons_zero, Act.put, List.setIfInBounds_toArray, List.set_cons_zero, List.set_cons_succ]
    refine wpAnyH_take (i := 1) (v := ?_) rfl (by kernel_rfl) (by kernel_rfl) (by kernel_rfl) (fun _ _ _ h => h) (Or.inl ⟨by rfl, ?_⟩) (by assumption) ?_
    rotate_left
    · intro wS hSw
      try dsimp only at hSw
      go_simp
      try (with_reducible rfl)
    try simp only [List.getElem_toArray, List.getElem_cons_succ, List.getElem_cons_zero, Act.put, List.setIfInBounds_toArray, List.set_cons_zero, List.set_cons_succ]
    refine wpAnyH_take (i := 2) (v := ?_) rfl (by kernel_rfl) (by kernel_rfl) (by kernel_rfl) (fun _ _ _ h => h) (Or.inl ⟨by rfl, ?_⟩) (by assumption) ?_
    rotate_left
    · intro wS hSw
      try dsimp only at hSw
      go_simp
      try (with_reducible rfl)
    try simp only [List.getElem_toArray, List.getElem_cons_succ, List.getElem_cons_zero, Act.put, List.setIfInBounds_toArray, List.set_cons_zero, List.set_cons_succ]
    refine wpAnyH_take (i := 3) (v := ?_) rfl (by kernel_rfl) (by kernel_rfl) (by kernel_rfl) (fun _ _ _ h => h) (Or.inl ⟨by rfl, ?_⟩) (by assumption) ?_
    rotate_left
    · intro wS hSw
      try dsimp only at hSw
      go_simp
      try (with_reducible rfl)
    try simp only [List.getElem_toArray, List.getElem_cons_succ, List.getElem_cons_zero, Act.put, List.setIfInBounds_toArray, List.set_cons_zero, List.set_cons_succ]
    refine wpAnyH_take (i := 4) (v := ?_) rfl (by kernel_rfl) (by kernel_rfl) (by kernel_rfl) (fun _ _ _ h => h) (Or.inl ⟨by rfl, ?_⟩) (by assumption) ?_
    rotate_left
    · intro wS hSw
      try dsimp only at hSw
      go_simp
      try (with_reducible rfl)
    try simp only [List.getElem_toArray, List.getElem_cons_succ, List.getElem_cons_zero, Act.put, List.setIfInBounds_toArray, List.set_cons_zero, List.set_cons_succ]
    refine wpAnyH_take (i := 5) (v := ?_) rfl (by kernel_rfl) (by kernel_rfl) (by kernel_rfl) (fun _ _ _ h => h) (Or.inl ⟨by rfl, ?_⟩) (by assumption) ?_
    rotate_left
    · intro wS hSw
      try dsimp only at hSw
      go_simp
      try (with_reducible rfl)
    try simp only [List.getElem_toArray, List.getElem_cons_succ, List.getElem_cons_zero, Act.put, List.setIfInBounds_toArray, List.set_cons_zero, List.set_cons_succ]
    refine wpAnyH_take (i := 6) (v := ?_) rfl (by kernel_rfl) (by kernel_rfl) (by kernel_rfl) (fun _ _ _ h => h) (Or.inl ⟨by rfl, ?_⟩) (by assumption) ?_
    rotate_left
    · intro wS hSw
      try dsimp only at hSw
      go_simp
      try (with_reducible rfl)
    try simp only [List.getElem_toArray, List.getElem_cons_succ, List.getElem_cons_zero, Act.put, List.setIfInBounds_toArray, List.set_cons_zero, List.set_cons_succ]
    refine wpAnyH_ready (rs := [7]) (by kernel_rfl) (by simp) ?_
    refine AllReadyH.cons rfl (fun K hK => ?_) AllReadyH.nil
    go_simp
    go_at_call 81
    refine (within_t _ _ _ _ hwi).mono ?_
    rintro e w3 ⟨rfl, rfl⟩
    go_wp2_with fail
    refine hK.out _ _ ?_ (fun hHeld => ?_)
    · exact HC.out _ hd0
    clear hK K
    try simp only [List.getElem_toArray, List.getElem_cons_succ, List.getElem_cons_zero, Act.put, List.setIfInBounds_toArray, List.set_cons_zero, List.set_cons_succ]
    refine wpAnyH_take (i := 8) (v := ?_) rfl (by kernel_rfl) (by kernel_rfl) (by kernel_rfl) (fun _ _ _ h => h) (Or.inl ⟨by rfl, ?_⟩) (by assumption) ?_
    rotate_left
    · intro wS hSw
      try dsimp only at hSw
      go_simp
      try (with_reducible rfl)
    try simp only [List.getElem_toArray, List.getElem_cons_succ, List.getElem_cons_zero, Act.put, List.setIfInBounds_toArray, List.set_cons_zero, List.set_cons_succ]
    refine wpAnyH_take (i := 9) (v := ?_) rfl (by kernel_rfl) (by kernel_rfl) (by kernel_rfl) (fun _ _ _ h => h) (Or.inl ⟨by rfl, ?_⟩) (by assumption) ?_
    rotate_left
    · intro wS hSw
      try dsimp only at hSw
      go_simp
      try (with_reducible rfl)
    try simp only [List.getElem_toArray, List.getElem_cons_succ, List.getElem_cons_zero, Act.put, List.setIfInBounds_toArray, List.set_cons_zero, List.set_cons_succ]
    refine wpAnyH_take (i := 10) (v := ?_) rfl (by kernel_rfl) (by kernel_rfl) (by kernel_rfl) (fun _ _ _ h => h) (Or.inl ⟨by rfl, ?_⟩) (by assumption) ?_
    rotate_left
    · intro wS hSw
      try dsimp only at hSw
      go_simp
      try (with_reducible rfl)
    try simp only [List.getElem_toArray, List.getElem_cons_succ, List.getElem_cons_zero, Act.put, List.setIfInBounds_toArray, List.set_cons_zero, List.set_cons_succ]
    refine wpAnyH_take (i := 12) (v := ?_) rfl (by kernel_rfl) (by kernel_rfl) (by kernel_rfl) (fun _ _ _ h => h) (Or.inl ⟨by rfl, ?_⟩) (by assumption) ?_
    rotate_left
    · intro wS hSw
      try dsimp only at hSw
      go_simp
      try (with_reducible rfl)
    try simp only [List.getElem_toArray, List.getElem_cons_succ, List.getElem_cons_zero, Act.put, List.setIfInBounds_toArray, List.set_cons_zero, List.set_cons_succ]
    refine wpAnyH_take (i := 13) (v := ?_) rfl (by kernel_rfl) (by kernel_rfl) (by kernel_rfl) (fun _ _ _ h => h) (Or.inl ⟨by rfl, ?_⟩) (by assumption) ?_
    rotate_left
    · intro wS hSw
      try dsimp only at hSw
      go_simp
      try (with_reducible rfl)
    try simp only [List.getElem_toArray, List.getElem_cons_succ, List.getElem_cons_zero, Act.put, List.setIfInBounds_toArray, List.set_cons_zero, List.set_cons_succ]
    refine wpAnyH_ready (rs := [11]) (by kernel_rfl) (by simp) ?_
    refine AllReadyH.cons rfl (fun K hK => ?_) AllReadyH.nil
    go_simp
    go_at_call 49
    refine (distances_any _ g x _ (HV.out.up hd0) HG.out HX.out).mono ?_
    rw [← HN.out]
    rintro e w4 ⟨o, rfl, hO4, hb4⟩
    have hB4 := hd0.trans hb4
    have x4 := own_int hO4 (show (distL g x)[nz]? = some p by rw [HP.out]; exact D_at hzl)
    go_wp2_with fail
    refine hK.out _ _ ?_ (fun hHeld => ?_)
    · exact HC.out _ hB4
    clear hK K
    try simp only [List.getElem_toArray, List.getElem_cons_succ, List.getElem_cons_zero, Act.put, List.setIfInBounds_toArray, List.set_cons_zero, List.set_cons_succ]
    refine wpAnyH_take (i := 14) (v := ?_) rfl (by kernel_rfl) (by kernel_rfl) (by kernel_rfl) (fun _ _ _ h => h) (Or.inl ⟨by rfl, ?_⟩) (by assumption) ?_
    rotate_left
    · intro wS hSw
      try dsimp only at hSw
      go_simp
      try (with_reducible rfl)
    try simp only [List.getElem_toArray, List.getElem_cons_succ, List.getElem_cons_zero, Act.put, List.setIfInBounds_toArray, List.set_cons_zero, List.set_cons_succ]
    refine wpAnyH_take (i := 18) (v := ?_) rfl (by kernel_rfl) (by kernel_rfl) (by kernel_rfl) (fun _ _ _ h => h) (Or.inl ⟨by rfl, ?_⟩) (by assumption) ?_
    rotate_left
    · intro wS hSw
      try dsimp only at hSw
      go_simp
      try (with_reducible rfl)
    try simp only [List.getElem_toArray, List.getElem_cons_succ, List.getElem_cons_zero, Act.put, List.setIfInBounds_toArray, List.set_cons_zero, List.set_cons_succ]
    refine wpAnyH_ready (rs := [15]) (by kernel_rfl) (by simp) ?_
    refine AllReadyH.cons rfl (fun K hK => ?_) AllReadyH.nil
    go_simp
    refine hK.out _ _ ?_ (fun hHeld => ?_)
    · exact HC.out _ hB4
    clear hK K
    try simp only [List.getElem_toArray, List.getElem_cons_succ, List.getElem_cons_zero, Act.put, List.setIfInBounds_toArray, List.set_cons_zero, List.set_cons_succ]
    refine wpAnyH_take (i := 16) (v := ?_) rfl (by kernel_rfl) (by kernel_rfl) (by kernel_rfl) (fun _ _ _ h => h) (Or.inl ⟨by rfl, ?_⟩) (by assumption) ?_
    rotate_left
    · intro wS hSw
      try dsimp only at hSw
      go_simp
      try (with_reducible rfl)
    try simp only [List.getElem_toArray, List.getElem_cons_succ, List.getElem_cons_zero, Act.put, List.setIfInBounds_toArray, List.set_cons_zero, List.set_cons_succ]
    refine wpAnyH_take (i := 17) (v := ?_) rfl (by kernel_rfl) (by kernel_rfl) (by kernel_rfl) (fun _ _ _ h => h) (Or.inl ⟨by rfl, ?_⟩) (by assumption) ?_
    rotate_left
    · intro wS hSw
      try dsimp only at hSw
      go_simp
      try (with_reducible rfl)
    try simp only [List.getElem_toArray, List.getElem_cons_succ, List.getElem_cons_zero, Act.put, List.setIfInBounds_toArray, List.set_cons_zero, List.set_cons_succ]
    refine wpAnyH_take (i := 19) (v := ?_) rfl (by kernel_rfl) (by kernel_rfl) (by kernel_rfl) (fun _ _ _ h => h) (Or.inl ⟨by rfl, ?_⟩) (by assumption) ?_
    rotate_left
    · intro wS hSw
      try dsimp only at hSw
      go_simp
      try (with_reducible rfl)
    try simp only [List.getElem_toArray, List.getElem_cons_succ, List.getElem_cons_zero, Act.put, List.setIfInBounds_toArray, List.set_cons_zero, List.set_cons_succ]
    refine wpAnyH_done (by kernel_rfl) ?_ _
    refine NoPanic.normal ?_
    go_wp2
    go_ret2
    exact ⟨rfl, hbw.trans (hB4.mono hbw.size)⟩
  · simp only at hk ha
    subst hk
    subst ha
    obtain ⟨b0, off, rfl, hb0, hcell⟩ := hr (by have := get_lt hm; omega)
    have hjl := get_lt hm
    obtain ⟨g1, g2, g3⟩ := linkAt (hcell.keep (w' := wb) fun p hp => hbw.cell (by omega)) hm
    have hot := oth_jn (HG.out.lv (List.mem_of_getElem? hm)).2.2.1 hj
    have hoc := other_any m x wb
    rw [hot, show (some z).getD 0 = z from rfl, show (some z).isSome = true from rfl] at hoc
    have HOC := hide hoc
    have hwi : (0 : Int) ≤ (j : Int) ∧ (j : Int) ≤ (g.ls.length : Int) - 1 := ⟨by omega, by omega⟩
    clear hj hm hcell hr hot hoc
    go_enter Try.func90, Try.ntmps90
    go_upto_region 5 with fail
    rw [← hwb, ← hB]
    clear hwb hB
    go_wp2_with fail
    refine (within_t _ _ _ _ hwi).mono ?_
    rintro e w3 ⟨rfl, rfl⟩
    go_wp2_with fail
    refine HOC.out.mono ?_
    rintro e w4 ⟨rfl, hb4⟩
    go_wp2
    go_ret2
    exact ⟨rfl, hbw.trans (hb4.mono hbw.size)⟩
set_option maxRecDepth 100000 in
set_option maxHeartbeats 1600000 in
theorem stackNodes_any (v u : Value) (g : Gr) (x : Int) (S : List Lb) (L : List Int) (w : World) (hv : GrR w w.heap.size v g) (hm : g.ls.length ≤ 1048576) (hg : GV g) (hu : SlR lbc 2 w w.heap.size u S) (hS : S.length ≤ 8) (hs : Sn g x S L) :
    Calls Try.prog 78 #[v, .int .i64 x, u] w fun e w' => ∃ v', e = .returned (.tuple #[v', .bool true]) ∧ Own ic 3 1 w' w.heap.size v' L ∧ Below w.heap.size w w' := by
  have hvv := hv
  obtain ⟨A, cap, rfl, hc, hr⟩ := hv.form
  obtain ⟨A2, cap2, rfl, hc2, hr2⟩ := hu
  obtain ⟨wb, hwb⟩ : ∃ wb, wb = w.alloc (Obj.cells #[.int .i64 g.n, .slice A g.ls.length cap] 25) := ⟨_, rfl⟩
  have hbw : Below w.heap.size w wb := by rw [hwb]; exact below1 _ _
  have HB : Hid (Blk wb w.heap.size 25 #[.int .i64 g.n, .slice A g.ls.length cap]) := hide (by rw [hwb]; exact Blk.new _ _ _)
  have HV := hide (hvv.up hbw)
  have HG := hide hg
  have HSN := hide hs
  have hx := hs.ndx hg
  have HXN : Hid (GV g ∧ Nd g x) := hide ⟨hg, hx⟩
  clear hvv hv hg hr hs hx
  go_enter Try.func78, Try.ntmps78
  go_wp2_with fail
  rw [← hwb]
  clear hwb
  refine (hasNode_any _ g _ _ HV.out hm).mono ?_
  rintro e w1 ⟨rfl, hb1⟩
  rw [tb_yes HXN.out]
  have hE := own_lit w1 x (base := wb.heap.size) hb1.size
  have h12 := below1 w1 (Obj.cells #[.int .i64 x] 3)
  have hb02 := hb1.trans (h12.mono hb1.size)
  obtain ⟨E, hEE⟩ : ∃ E, E = w1.heap.size := ⟨_, rfl⟩
  obtain ⟨w2, hw2⟩ : ∃ w2, w2 = w1.alloc (Obj.cells #[.int .i64 x] 3) := ⟨_, rfl⟩
  rw [← hw2] at hE hb02
  rw [← hEE] at hE
  have HE : Hid (Own ic 3 1 w2 wb.heap.size (.slice (some ⟨E, 0, none⟩) 1 1) (L.take 1)) := hide (by
    have h1 : L.take 1 = [x] := by
      have := HSN.out.head
      cases L with
      | nil => simp at this
      | cons a t => simp at this; subst this; rfl
    rw [h1]; exact hE)
  clear hE h12 hb1
  have hLl := HSN.out.len
  have hLa : L.length ≤ S.length + 1 := by omega
  have hLb : S.length + 1 ≤ L.length := by omega
  clear hLl
  go_upto_region 5 with fail
  rw [← hw2, ← hEE]
  clear hw2 hEE
  go_loopg [8, 26] (S.length) (fun gg rv iv wr => ∃ (i : Nat) (A5 : Option Addr) (c5 : Nat), i + gg = S.length ∧ rv = .slice A5 (i + 1) c5 ∧ iv = .int .i64 i ∧ Below wb.heap.size wb wr ∧ Hid (Own ic 3 1 wr wb.heap.size (.slice A5 (i + 1) c5) (L.take (i + 1))))
  case atStart => exact ⟨0, _, _, by omega, rfl, rfl, hb02, HE⟩
  case round =>
    clear HE hb02
    obtain ⟨i, A5, c5, hi, rfl, rfl, hbe, HO⟩ := hrel
    by_cases hlt : i < S.length
    · obtain ⟨b0, off, rfl, hb0, hcell⟩ := hr2 (by omega)
      obtain ⟨b, hb⟩ := get_some hlt
      obtain ⟨a, z, ha, hz, hst⟩ := HSN.out.at hb
      have hbwe := hbw.trans (hbe.mono hbw.size)
      obtain ⟨d1, d2⟩ := labAt (hcell.keep (w' := wr) fun p hp => hbwe.cell (by omega)) hb
      obtain ⟨o5, cp5, he5, _, _⟩ := HO.out.form (by rw [List.length_take]; omega)
      have hA5 : A5 = some ⟨o5, 0, none⟩ := by injection he5
      subst hA5
      have hai : (L.take (i + 1))[i]? = some a := by rw [List.getElem?_take, if_pos (by omega)]; exact ha
      have HAI := hide hai
      have HLN : Hid (L.take (i + 2) = L.take (i + 1) ++ [z]) := hide (by rw [List.take_add_one, hz]; rfl)
      have HLL : Hid ((L.take (i + 2)).length = i + 2) := hide (by rw [List.length_take]; have := get_lt hz; omega)
      have h1d := below1 wr (Obj.cells #[.int .i64 b.k, .int .i64 b.a] 57)
      have HK := hide (Blk.new wr 57 #[.int .i64 b.k, .int .i64 b.a])
      have HOd := hide (HO.out.below h1d)
      have hbd := hbe.trans (h1d.mono hbe.size)
      obtain ⟨wd, hwd⟩ : ∃ wd, wd = wr.alloc (Obj.cells #[.int .i64 b.k, .int .i64 b.a] 57) := ⟨_, rfl⟩
      rw [← hwd] at HK HOd hbd
      have HUS := hide (fun y => use_any _ g a z b (wext wd y) ((HV.out.up hbd).up (wext_below wd y)) HG.out hst)
      have x1 := own_int HOd.out HAI.out
      have k0 := HK.out.cell 0
      have k1 := HK.out.cell 1
      have c0 := (HB.out.up hbd).cell 0
      have c1 := (HB.out.up hbd).cell 1
      clear h1d HO hst hb ha hz hai he5
      go_upto_region 7 with fail
      rw [← hwd]
      clear hwd d1 d2
      have e1 := fun y => wext_cell wd y x1
      have e2 := fun y => wext_cell wd y k0
      have e3 := fun y => wext_cell wd y k1
      have e4 := fun y => wext_cell wd y c0
      have e5 := fun y => wext_cell wd y c1
      clear x1 k0 k1 c0 c1
      refine region_q (by kernel_rfl) (by kernel_rfl) ?_
      repeat (go_big_quiet_step ((first | (go_at_call 90; with_reducible exact q_call (HUS.out _)))))
      refine wpQuiet_nil ?_
      intro wx hbx
      have HO1 := hide (HOd.out.below hbx)
      have hbe1 := hbd.trans (hbx.mono hbd.size)
      clear HK HOd e1 e2 e3 e4 e5
      go_upto_region 11 with (at_builtin; refine wpList_appN (by rfl) infI (.tmp 43) (.tmp 45) (by rfl) _ _ (by rfl) (by rfl) wb (L.take (i + 1)) [z] (L.take (i + 2)) (i + 2) HLN.out HLL.out (HO1.out.below (below1 _ _)) (hbe1.trans ((below1 _ _).mono hbe1.size)) (slr_lit _ _) (by omega) ?_; intro Ay capy w4 hO4 hg4 hb4)
      have HO4 := hide hO4
      clear hO4 hg4 HO1
      go_wp2
      go_roundg (gk - 1)
      case measure => omega
      case rel => exact ⟨i + 1, _, _, by omega, rfl, by go_num, hb4, HO4⟩
    · have HLF : Hid (L.take (i + 1) = L) := hide (List.take_of_length_le (by omega))
      go_wp2
      go_ret2
      exact ⟨_, rfl, by have := HO.out.low hbw.size; rwa [HLF.out] at this, hbw.trans (hbe.mono hbw.size)⟩
set_option maxHeartbeats 800000 in
theorem stackEnd_any (v u : Value) (g : Gr) (x y : Int) (S : List Lb) (L : List Int) (w : World) (hv : GrR w w.heap.size v g) (hm : g.ls.length ≤ 1048576) (hg : GV g) (hu : SlR lbc 2 w w.heap.size u S) (hS : S.length ≤ 8) (hs : Sn g x S L) (hy : L[S.length]? = some y) :
    Calls Try.prog 43 #[v, .int .i64 x, u] w fun e w' => e = .returned (.tuple #[.int .i64 y, .bool true]) ∧ Below w.heap.size w w' := by
  have hvv := hv
  obtain ⟨A, cap, rfl, hc, hr⟩ := hv.form
  obtain ⟨wb, hwb⟩ : ∃ wb, wb = w.alloc (Obj.cells #[.int .i64 g.n, .slice A g.ls.length cap] 25) := ⟨_, rfl⟩
  have hbw : Below w.heap.size w wb := by rw [hwb]; exact below1 _ _
  have hcon := hide (stackNodes_any _ u g x S L wb (hvv.up hbw) hm hg (hu.up hbw) hS hs)
  have hll := hs.len
  have HY := hide hy
  have hyl := get_lt hy
  have hLb : (L.length : Int) - 1 = (S.length : Int) := by omega
  obtain ⟨A2, cap2, rfl, _, _⟩ := hu
  clear hvv hv hr hg hs hll hy
  go_enter Try.func43, Try.ntmps43
  go_wp2_with fail
  rw [← hwb]
  clear hwb
  refine hcon.out.mono ?_
  rintro e w1 ⟨v1, rfl, hO1, hb1⟩
  obtain ⟨o1, k1, rfl, _, _⟩ := hO1.form (by omega)
  have x1 := own_int hO1 HY.out
  clear hO1 hcon
  go_wp2
  go_ret2
  exact ⟨rfl, hbw.trans (hb1.mono hbw.size)⟩


/-- The stack does not cross link k. -/
def NoX (g : Gr) (k : Int) (S : List Lb) (L : List Int) : Prop := ∀ (i : Nat) (b : Lb) (a z : Int), S[i]? = some b → L[i]? = some a → L[i + 1]? = some z → (b.k = 1 ∧ Nd g a ∧ Nd g z ∧ ¬ Us g (lkOf g k) a z) ∨ (b.k = 2 ∧ b.a ≠ k)
set_option maxRecDepth 100000 in
set_option maxHeartbeats 1600000 in
theorem stackCrosses_any (v u : Value) (g : Gr) (x k : Int) (S : List Lb) (L : List Int) (w : World) (hv : GrR w w.heap.size v g) (hm : g.ls.length ≤ 1048576) (hg : GV g) (hk : Ix g k) (hu : SlR lbc 2 w w.heap.size u S) (hS : S.length ≤ 8) (hs : Sn g x S L) (hx : NoX g k S L) :
    Calls Try.prog 44 #[v, .int .i64 x, u, .int .i64 k] w fun e w' => e = .returned (.bool false) ∧ Below w.heap.size w w' := by
  have hvv := hv
  obtain ⟨A, cap, rfl, hc, hr⟩ := hv.form
  obtain ⟨wb, hwb⟩ : ∃ wb, wb = w.alloc (Obj.cells #[.int .i64 g.n, .slice A g.ls.length cap] 25) := ⟨_, rfl⟩
  have hbw : Below w.heap.size w wb := by rw [hwb]; exact below1 _ _
  have HB : Hid (Blk wb w.heap.size 25 #[.int .i64 g.n, .slice A g.ls.length cap]) := hide (by rw [hwb]; exact Blk.new _ _ _)
  have HV := hide (hvv.up hbw)
  have hcon := hide (stackNodes_any _ u g x S L wb (hvv.up hbw) hm hg (hu.up hbw) hS hs)
  have hll := hs.len
  have hLa : L.length ≤ S.length + 1 := by omega
  have hLb : S.length + 1 ≤ L.length := by omega
  have HSN := hide hs
  have HX := hide hx
  have HOK : Hid (GV g ∧ Ix g k) := hide ⟨hg, hk⟩
  obtain ⟨A2, cap2, rfl, hc2, hr2⟩ := hu
  clear hvv hv hr hg hs hll hx hk
  go_enter Try.func44, Try.ntmps44
  go_wp2_with fail
  rw [← hwb]
  clear hwb
  refine hcon.out.mono ?_
  rintro e w1 ⟨v1, rfl, hO1, hb1⟩
  obtain ⟨o1, k1, rfl, _, _⟩ := hO1.form (by omega)
  have HO1 := hide hO1
  have c0 := (HB.out.up hb1).cell 0
  have c1 := (HB.out.up hb1).cell 1
  clear hO1 hcon
  go_wp2_with fail
  refine (hasLink_any _ g k _ (HV.out.up hb1) hm).mono ?_
  rintro e w2 ⟨rfl, hb2⟩
  rw [tb_yes HOK.out]
  have hb02 := hb1.trans (hb2.mono hb1.size)
  have HO2 := hide (HO1.out.below hb2)
  clear HO1 hb1 hb2 c0 c1
  go_wp2
  go_loopg [30] (S.length) (fun gg iv wr => ∃ (i : Nat), i + gg = S.length ∧ iv = .int .i64 i ∧ Below w2.heap.size w2 wr)
  case atStart => exact ⟨0, by omega, rfl, Below.refl _ _⟩
  case round =>
    obtain ⟨i, hi, rfl, hbe⟩ := hrel
    by_cases hlt : i < S.length
    · obtain ⟨b0, off, rfl, hb0, hcell⟩ := hr2 (by omega)
      obtain ⟨b, hb⟩ := get_some hlt
      obtain ⟨a, z, ha, hz, _⟩ := HSN.out.at hb
      have hbwe := hbw.trans ((hb02.trans (hbe.mono hb02.size)).mono hbw.size)
      obtain ⟨d1, d2⟩ := labAt (hcell.keep (w' := wr) fun p hp => hbwe.cell (by omega)) hb
      have hno := HX.out i b a z hb ha hz
      have hil := get_lt hz
      have h1d := below1 wr (Obj.cells #[.int .i64 b.k, .int .i64 b.a] 57)
      have HK := hide (Blk.new wr 57 #[.int .i64 b.k, .int .i64 b.a])
      have hbd := hbe.trans (h1d.mono hbe.size)
      have hbb := hb02.trans (hbd.mono hb02.size)
      obtain ⟨bk, ba⟩ := b
      simp only at d1 d2 HK hno hbd hbb h1d
      obtain ⟨wd, hwd⟩ : ∃ wd, wd = wr.alloc (Obj.cells #[.int .i64 bk, .int .i64 ba] 57) := ⟨_, rfl⟩
      rw [← hwd] at HK hbd hbb
      have x1 := own_int (HO2.out.below hbd) ha
      have x2 := own_int (HO2.out.below hbd) hz
      have k0 := HK.out.cell 0
      have k1' := HK.out.cell 1
      have c0 := (HB.out.up hbb).cell 0
      have c1 := (HB.out.up hbb).cell 1
      have hw1 : IntKind.i64.wrap ((i : Int) + 1) = (i : Int) + 1 := by rw [IntKind.wrap_i64]; omega
      have hi1 : (i : Int) + 1 < (L.length : Int) := by omega
      have hi0 : 0 ≤ (i : Int) + 1 := by omega
      have hi2 : i < L.length := by omega
      clear h1d hb ha hz hcell
      go_upto_region 7 with fail
      rw [← hwd]
      clear hwd d1 d2
      have e1 := fun y => wext_cell wd y x1
      have e2 := fun y => wext_cell wd y k0
      have e3 := fun y => wext_cell wd y k1'
      have e4 := fun y => wext_cell wd y c0
      have e5 := fun y => wext_cell wd y c1
      have e6 := fun y => wext_cell wd y x2
      clear x1 x2 k0 k1' c0 c1
      rcases hno with ⟨hk1, hna, hnz, hnu⟩ | ⟨hk2, hne⟩
      · subst hk1
        have hlu := fun y => linkUsed_k _ g a z k (wext wd y) ((HV.out.up hbb).up (wext_below wd y)) HOK.out.1 hna hnz HOK.out.2
        rw [tb_no hnu] at hlu
        have HLU := hide hlu
        clear hlu hna hnz hnu
        refine region_q (by kernel_rfl) (by kernel_rfl) ?_
        repeat (go_big_quiet_step ((first | (go_at_call 79; with_reducible exact q_call (HLU.out _)))))
        refine wpQuiet_nil ?_
        intro wx hbx
        clear e1 e2 e3 e4 e5 e6
        go_wp2
        go_roundg (gk - 1)
        case measure => omega
        case rel => exact ⟨i + 1, by omega, by go_num, hbd.trans (hbx.mono hbd.size)⟩
      · subst hk2
        have n1 : (ba == k) = false := by rw [beq_eq_false_iff_ne]; exact hne
        clear hne
        refine region_q (by kernel_rfl) (by kernel_rfl) ?_
        repeat (go_big_quiet_step ((first | (fail))))
        refine wpQuiet_nil ?_
        intro wx hbx
        clear e1 e2 e3 e4 e5 e6
        go_wp2
        go_roundg (gk - 1)
        case measure => omega
        case rel => exact ⟨i + 1, by omega, by go_num, hbd.trans (hbx.mono hbd.size)⟩
    · go_wp2
      go_ret
      exact ⟨rfl, hbw.trans ((hb02.trans (hbe.mono hb02.size)).mono hbw.size)⟩

end Go.Proofs.Ytenfdekjnelkoaa
