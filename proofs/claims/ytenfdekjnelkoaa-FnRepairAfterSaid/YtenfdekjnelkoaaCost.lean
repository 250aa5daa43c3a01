/- StackCost of the program; the law FnRepairCost, walked: it returns true for every code. Conditions: none. -/
import Derived.Test.YtenfdekjnelkoaaDrawR
import Derived.Test.YtenfdekjnelkoaaStackS
import Derived.Test.YtenfdekjnelkoaaLbW
import Derived.Test.YtenfdekjnelkoaaLawH
import Derived.Test.YtenfdekjnelkoaaExG
import Derived.Test.YtenfdekjnelkoaaUse
namespace Go.Proofs.Ytenfdekjnelkoaa
open Go.RowKit

/-- Costs that are not above 140 each. -/
def CBd (g : Gr) (S : List Lb) (L : List Int) : Prop := ∀ (i : Nat) (b : Lb) (a z : Int), S[i]? = some b → L[i]? = some a → L[i + 1]? = some z → 0 ≤ cst g a b z ∧ cst g a b z ≤ 140
theorem sn_cbd {g : Gr} {x : Int} {S : List Lb} {L : List Int} (hg : GV g) (h : Sn g x S L) : CBd g S L := fun i b a z hb ha hz => by
  obtain ⟨a', z', ha', hz', hst⟩ := h.at hb
  rw [ha] at ha'; rw [hz] at hz'
  cases ha'; cases hz'
  unfold cst
  rcases hst with ⟨h1, _, h3, h4, h5⟩ | ⟨h1, j, m, h2, h3, _⟩
  · rw [if_pos h1]
    have := D_few hg h3 h4
    have := hg.n
    omega
  · rw [if_neg (by omega), h2]
    have := (hg.lv (List.mem_of_getElem? h3)).2.2.2
    unfold costOf
    rw [Int.toNat_natCast, h3]
    show 0 ≤ m.c ∧ m.c ≤ 140
    omega
theorem cTo_bd {g : Gr} {S : List Lb} {L : List Int} (hL : L.length = S.length + 1) (h : CBd g S L) : ∀ i, i ≤ S.length → 0 ≤ cTo g S L i ∧ cTo g S L i ≤ 140 * i
  | 0, _ => ⟨Int.le_refl _, by simp [cTo]⟩
  | i + 1, hi => by
    have ih := cTo_bd hL h i (by omega)
    obtain ⟨b, hb⟩ := get_some (show i < S.length by omega)
    obtain ⟨a, ha⟩ := get_some (show i < L.length by omega)
    obtain ⟨z, hz⟩ := get_some (show i + 1 < L.length by omega)
    rw [cTo_succ hb ha hz]
    have := h i b a z hb ha hz
    omega
set_option maxRecDepth 100000 in
set_option maxHeartbeats 1600000 in
set_option linter.unusedSimpArgs false in
theorem stackCost_any (v u : Value) (g : Gr) (x : Int) (S : List Lb) (L : List Int) (w : World) (hv : GrR w w.heap.size v g) (hm : g.ls.length ≤ 1048576) (hg : GV g) (hu : SlR lbc 2 w w.heap.size u S) (hS : S.length ≤ 8) (hs : Sn g x S L) :
    Calls Try.prog 45 #[v, .int .i64 x, u] w fun e w' => e = .returned (.int .i64 (cTo g S L S.length)) ∧ Below w.heap.size w w' := by
  have hvv := hv
  obtain ⟨A, cap, rfl, hc, hr⟩ := hv.form
  obtain ⟨B, hB⟩ : ∃ B, B = w.heap.size := ⟨_, rfl⟩
  obtain ⟨wb, hwb⟩ : ∃ wb, wb = w.alloc (Obj.cells #[.int .i64 g.n, .slice A g.ls.length cap] 25) := ⟨_, rfl⟩
  have hbw : Below w.heap.size w wb := by rw [hwb]; exact below1 _ _
  have HB : Hid (Blk wb B 25 #[.int .i64 g.n, .slice A g.ls.length cap]) := hide (by rw [hwb, hB]; exact Blk.new _ _ _)
  have HV := hide (hvv.up hbw)
  have hcon := hide (stackNodes_any _ u g x S L wb (hvv.up hbw) hm hg (hu.up hbw) hS hs)
  have hll := hs.len
  have hLa : L.length ≤ S.length + 1 := by omega
  have hLb : S.length + 1 ≤ L.length := by omega
  have HCB := hide (cTo_bd hll (sn_cbd hg hs))
  have HCC := hide (sn_cbd hg hs)
  have HSN := hide hs
  have HG := hide hg
  have hn := hg.n
  obtain ⟨A2, cap2, rfl, hc2, hr2⟩ := hu
  obtain ⟨T, hT⟩ : ∃ T, T = cTo g S L S.length := ⟨_, rfl⟩
  rw [← hT]
  have HT := hide hT
  clear hvv hv hg hs hll hT
  go_enter Try.func45, Try.ntmps45
  go_wp2_with fail
  rw [← hwb, ← hB]
  clear hwb hB
  refine hcon.out.mono ?_
  rintro e w1 ⟨v1, rfl, hO1, hb1⟩
  obtain ⟨o1, k1, rfl, _, _⟩ := hO1.form (by omega)
  have HO1 := hide hO1
  clear hO1 hcon
  go_wp2
  go_loopg [9, 23] (S.length) (fun gg sv iv wr => ∃ (i : Nat) (s : Int), i + gg = S.length ∧ Hid (s = cTo g S L i) ∧ sv = .int .i64 s ∧ iv = .int .i64 i ∧ Below w1.heap.size w1 wr)
  case atStart => exact ⟨0, 0, by omega, hide rfl, rfl, rfl, Below.refl _ _⟩
  case round =>
    obtain ⟨i, s, hi, HS, rfl, rfl, hbe⟩ := hrel
    by_cases hlt : i < S.length
    · obtain ⟨b0, off, rfl, hb0, hcell⟩ := hr2 (by omega)
      obtain ⟨b, hb⟩ := get_some hlt
      obtain ⟨a, z, ha, hz, hst⟩ := HSN.out.at hb
      have hbwe := hbw.trans ((hb1.trans (hbe.mono hb1.size)).mono hbw.size)
      obtain ⟨d1, d2⟩ := labAt (hcell.keep (w' := wr) fun p hp => hbwe.cell (by omega)) hb
      have hcs := HCC.out i b a z hb ha hz
      have hsb := HCB.out i (by omega)
      rw [← HS.out] at hsb
      obtain ⟨c, hcst⟩ : ∃ c, c = cst g a b z := ⟨_, rfl⟩
      have HS1 : Hid (s + c = cTo g S L (i + 1)) := hide (by rw [cTo_succ hb ha hz, ← HS.out, hcst])
      rw [← hcst] at hcs
      obtain ⟨hs0, hs1⟩ := hsb
      obtain ⟨hc0, hc1⟩ := hcs
      have hwr : IntKind.i64.wrap (s + c) = s + c := by rw [IntKind.wrap_i64]; omega
      have hil := get_lt hz
      have h1d := below1 wr (Obj.cells #[.int .i64 b.k, .int .i64 b.a] 57)
      have HK := hide (Blk.new wr 57 #[.int .i64 b.k, .int .i64 b.a])
      have hbd := hbe.trans (h1d.mono hbe.size)
      have hbb := hb1.trans (hbd.mono hb1.size)
      obtain ⟨bk, ba⟩ := b
      simp only at d1 d2 HK hbd hbb h1d hcst
      obtain ⟨wd, hwd⟩ : ∃ wd, wd = wr.alloc (Obj.cells #[.int .i64 bk, .int .i64 ba] 57) := ⟨_, rfl⟩
      rw [← hwd] at HK hbd hbb
      have k0 := HK.out.cell 0
      have k1' := HK.out.cell 1
      have x0 := own_int (HO1.out.below hbd) ha
      have x1 := own_int (HO1.out.below hbd) hz
      have c0 := (HB.out.up hbb).cell 0
      have c1 := (HB.out.up hbb).cell 1
      have hi2 : i < L.length := by omega
      have hi1 : (i : Int) + 1 < (L.length : Int) := by omega
      have hi0 : 0 ≤ (i : Int) + 1 := by omega
      have hw1 : IntKind.i64.wrap ((i : Int) + 1) = (i : Int) + 1 := by rw [IntKind.wrap_i64]; omega
      go_upto_region 8 with fail
      rw [← hwd]
      clear hwd d1 d2 h1d
      rcases hst with ⟨hk, hza, hxn, hzn, hd⟩ | ⟨hk, j, m, hja, hmj, _⟩
      · simp only at hk hza
        subst hk
        subst hza
        obtain ⟨nz, rfl⟩ := Int.eq_ofNat_of_zero_le hzn.1
        have hzl := hzn.2
        have HCD : Hid (c = D g a nz) := hide (by rw [hcst]; unfold cst; simp)
        have HAN := hide hxn
        obtain ⟨N, hN⟩ : ∃ N, N = g.n.toNat := ⟨_, rfl⟩
        have hzN : nz < N := by omega
        have HN := hide hN
        have hd0 := (Below.refl wd.heap.size wd).drew
        have HC : Hid (∀ X, Below wd.heap.size wd X → X.cell? ⟨B, 0, none⟩ = some (.int .i64 g.n) ∧ X.cell? ⟨B, 1, none⟩ = some (.slice A g.ls.length cap) ∧ X.cell? ⟨o1, i, none⟩ = some (.int .i64 a) ∧ X.cell? ⟨o1, i + 1, none⟩ = some (.int .i64 nz)) :=
          hide fun X hX => ⟨(hX.cell (World.block_lt_of_cell? wd _ c0)).trans c0, (hX.cell (World.block_lt_of_cell? wd _ c1)).trans c1, (hX.cell (World.block_lt_of_cell? wd _ x0)).trans x0, (hX.cell (World.block_lt_of_cell? wd _ x1)).trans x1⟩
        clear hcst hxn hzn hd hN hb ha hz hcell
        go_upto_region 9 with fail
        refine wp_region_noPanic ?_
        refine wp_region_held_drew (S := (fun X => X.cell? ⟨B, 0, none⟩ = some (.int .i64 g.n) ∧ X.cell? ⟨B, 1, none⟩ = some (.slice A g.ls.length cap) ∧ X.cell? ⟨o1, i, none⟩ = some (.int .i64 a) ∧ X.cell? ⟨o1, i + 1, none⟩ = some (.int .i64 nz))) (by kernel_rfl) ?_ (fun hHeld => ?_)
        · exact HC.out _ hd0
        refine wpAnyH_take (i := 0) (v := ?_) rfl (by kernel_rfl) (by kernel_rfl) (by kernel_rfl) (fun _ _ _ h => h) (Or.inl ⟨by rfl, ?_⟩) (by assumption) ?_
        rotate_left
        · intro wS hSw
          try dsimp only at hSw
          go_simp
          try (with_reducible rfl)
        try simp only [List.getElem_toArray, List.getElem_cons_succ, List.getElem_cons_zero, Act.put, List.setIfInBounds_toArray, List.set_cons_zero, List.set_cons_succ]
        refine wpAnyH_take (i := 1) (v := ?_) rfl (by kernel_rfl) (by kernel_rfl) (by kernel_rfl) (fun _ _ _ h => h) (Or.inl ⟨by rfl, ?_⟩) (by assumption) ?_
        rotate_left
        · intro wS hSw
          try dsimp only at hSw
          go_simp
          try (with_reducible rfl)
        try simp only [List.getElem_toArray, List.getElem_cons_succ, List.getElem_cons_zero, Act.put, List.setIfInBounds_toArray, List.set_cons_zero, List.set_cons_succ]
        refine wpAnyH_take (i := 2) (v := ?_) rfl (by kernel_rfl) (by kernel_rfl) (by kernel_rfl) (fun _ _ _ h => h) (Or.inl ⟨by rfl, ?_⟩) (by assumption) ?_
        rotate_left
        · intro wS hSw
          try dsimp only at hSw
          go_simp
          try (with_reducible rfl)
        try simp only [List.getElem_toArray, List.getElem_cons_succ, List.getElem_cons_zero, Act.put, List.setIfInBounds_toArray, List.set_cons_zero, List.set_cons_succ]
        refine wpAnyH_take (i := 3) (v := ?_) rfl (by kernel_rfl) (by kernel_rfl) (by kernel_rfl) (fun _ _ _ h => h) (Or.inl ⟨by rfl, ?_⟩) (by assumption) ?_
        rotate_left
        · intro wS hSw
          try dsimp only at hSw
          go_simp
          try (with_reducible rfl)
        try simp only [List.getElem_toArray, List.getElem_cons_succ, List.getElem_cons_zero, Act.put, List.setIfInBounds_toArray, List.set_cons_zero, List.set_cons_succ]
        refine wpAnyH_take (i := 4) (v := ?_) rfl (by kernel_rfl) (by kernel_rfl) (by kernel_rfl) (fun _ _ _ h => h) (Or.inl ⟨by rfl, ?_⟩) (by assumption) ?_
        rotate_left
        · intro wS hSw
          try dsimp only at hSw
          go_simp
          try (with_reducible rfl)
        try simp only [List.getElem_toArray, List.getElem_cons_succ, List.getElem_cons_zero, Act.put, List.setIfInBounds_toArray, List.set_cons_zero, List.set_cons_succ]
        refine wpAnyH_take (i := 5) (v := ?_) rfl (by kernel_rfl) (by kernel_rfl) (by kernel_rfl) (fun _ _ _ h => h) (Or.inl ⟨by rfl, ?_⟩) (by assumption) ?_
        rotate_left
        · intro wS hSw
          try dsimp only at hSw
          go_simp
          try (with_reducible rfl)
        try simp only [List.getElem_toArray, List.getElem_cons_succ, List.getElem_cons_zero, Act.put, List.setIfInBounds_toArray, List.set_cons_zero, List.set_cons_succ]
        refine wpAnyH_take (i := 7) (v := ?_) rfl (by kernel_rfl) (by kernel_rfl) (by kernel_rfl) (fun _ _ _ h => h) (Or.inl ⟨by rfl, ?_⟩) (by assumption) ?_
        rotate_left
        · intro wS hSw
          try dsimp only at hSw
          go_simp
          try (with_reducible rfl)
        try simp only [List.getElem_toArray, List.getElem_cons_succ, List.getElem_cons_zero, Act.put, List.setIfInBounds_toArray, List.set_cons_zero, List.set_cons_succ]
        refine wpAnyH_take (i := 8) (v := ?_) rfl (by kernel_rfl) (by kernel_rfl) (by kernel_rfl) (fun _ _ _ h => h) (Or.inl ⟨by rfl, ?_⟩) (by assumption) ?_
        rotate_left
        · intro wS hSw
          try dsimp only at hSw
          go_simp
          try (with_reducible rfl)
        try simp only [List.getElem_toArray, List.getElem_cons_succ, List.getElem_cons_zero, Act.put, List.setIfInBounds_toArray, List.set_cons_zero, List.set_cons_succ]
        refine wpAnyH_take (i := 9) (v := ?_) rfl (by kernel_rfl) (by kernel_rfl) (by kernel_rfl) (fun _ _ _ h => h) (Or.inl ⟨by rfl, ?_⟩) (by assumption) ?_
        rotate_left
        · intro wS hSw
          try dsimp only at hSw
          go_simp
          try (with_reducible rfl)
        try simp only [List.getElem_toArray, List.getElem_cons_succ, List.getElem_cons_zero, Act.put, List.setIfInBounds_toArray, List.set_cons_zero, List.set_cons_succ]
        refine wpAnyH_take (i := 10) (v := ?_) rfl (by kernel_rfl) (by kernel_rfl) (by kernel_rfl) (fun _ _ _ h => h) (Or.inl ⟨by rfl, ?_⟩) (by assumption) ?_
        rotate_left
        · intro wS hSw
          try dsimp only at hSw
          go_simp
          try (with_reducible rfl)
        try simp only [List.getElem_toArray, List.getElem_cons_succ, List.getElem_cons_zero, Act.put, List.setIfInBounds_toArray, List.set_cons_zero, List.set_cons_succ]
        refine wpAnyH_take (i := 11) (v := ?_) rfl (by kernel_rfl) (by kernel_rfl) (by kernel_rfl) (fun _ _ _ h => h) (Or.inl ⟨by rfl, ?_⟩) (by assumption) ?_
        rotate_left
        · intro wS hSw
          try dsimp only at hSw
          go_simp
          try (with_reducible rfl)
        try simp only [List.getElem_toArray, List.getElem_cons_succ, List.getElem_cons_zero, Act.put, List.setIfInBounds_toArray, List.set_cons_zero, List.set_cons_succ]
        refine wpAnyH_ready (rs := [6]) (by kernel_rfl) (by simp) ?_
        refine AllReadyH.cons rfl (fun K hK => ?_) AllReadyH.nil
        go_simp
        go_at_call 49
        refine (distances_any _ g a _ ((HV.out.up hbb).up hd0) HG.out HAN.out).mono ?_
        rw [← HN.out]
        rintro e w4 ⟨o, rfl, hO4, hb4⟩
        have hB4 := hd0.trans hb4
        have x4 := own_int hO4 (show (distL g a)[nz]? = some c by rw [HCD.out]; exact D_at hzl)
        go_wp2_with fail
        refine hK.out _ _ ?_ (fun hHeld => ?_)
        · exact HC.out _ hB4
        clear hK K
        try simp only [List.getElem_toArray, List.getElem_cons_succ, List.getElem_cons_zero, Act.put, List.setIfInBounds_toArray, List.set_cons_zero, List.set_cons_succ]
        refine wpAnyH_take (i := 12) (v := ?_) rfl (by kernel_rfl) (by kernel_rfl) (by kernel_rfl) (fun _ _ _ h => h) (Or.inl ⟨by rfl, ?_⟩) (by assumption) ?_
        rotate_left
        · intro wS hSw
          try dsimp only at hSw
          go_simp
          try (with_reducible rfl)
        try simp only [List.getElem_toArray, List.getElem_cons_succ, List.getElem_cons_zero, Act.put, List.setIfInBounds_toArray, List.set_cons_zero, List.set_cons_succ]
        refine wpAnyH_ready (rs := [13]) (by kernel_rfl) (by simp) ?_
        refine AllReadyH.cons rfl (fun K hK => ?_) AllReadyH.nil
        go_simp
        refine hK.out _ _ ?_ (fun hHeld => ?_)
        · exact HC.out _ hB4
        clear hK K
        try simp only [List.getElem_toArray, List.getElem_cons_succ, List.getElem_cons_zero, Act.put, List.setIfInBounds_toArray, List.set_cons_zero, List.set_cons_succ]
        refine wpAnyH_take (i := 14) (v := ?_) rfl (by kernel_rfl) (by kernel_rfl) (by kernel_rfl) (fun _ _ _ h => h) (Or.inl ⟨by rfl, ?_⟩) (by assumption) ?_
        rotate_left
        · intro wS hSw
          try dsimp only at hSw
          go_simp
          try (with_reducible rfl)
        try simp only [List.getElem_toArray, List.getElem_cons_succ, List.getElem_cons_zero, Act.put, List.setIfInBounds_toArray, List.set_cons_zero, List.set_cons_succ]
        refine wpAnyH_take (i := 15) (v := ?_) rfl (by kernel_rfl) (by kernel_rfl) (by kernel_rfl) (fun _ _ _ h => h) (Or.inl ⟨by rfl, ?_⟩) (by assumption) ?_
        rotate_left
        · intro wS hSw
          try dsimp only at hSw
          go_simp
          try (with_reducible rfl)
        try simp only [List.getElem_toArray, List.getElem_cons_succ, List.getElem_cons_zero, Act.put, List.setIfInBounds_toArray, List.set_cons_zero, List.set_cons_succ]
        refine wpAnyH_done (by kernel_rfl) ?_ _
        refine NoPanic.normal ?_
        go_wp2
        go_roundg (gk - 1)
        case measure => omega
        case rel => exact ⟨i + 1, s + c, by omega, HS1, rfl, by go_num, hbd.trans (hB4.mono hbd.size)⟩
      · simp only at hk hja
        subst hk
        subst hja
        obtain ⟨b1, off1, rfl, hb1', hcell1⟩ := hr (by have := get_lt hmj; omega)
        have hjl := get_lt hmj
        have hbw2 := hbw.trans (hbb.mono hbw.size)
        obtain ⟨_, _, g3⟩ := linkAt (hcell1.keep (w' := wd) fun p hp => hbw2.cell (by omega)) hmj
        have hmc : m.c = c := by rw [hcst]; unfold cst costOf; simp [hmj]
        rw [hmc] at g3
        clear hcst hmc hmj hcell1 hb ha hz hcell
        go_wp2
        go_roundg (gk - 1)
        case measure => omega
        case rel => exact ⟨i + 1, s + c, by omega, HS1, rfl, by go_num, hbd⟩
    · have HTS : Hid (T = s) := hide (by rw [HT.out, HS.out, show S.length = i from by omega])
      go_wp2
      go_ret
      exact ⟨ret_i64 HTS.out.symm, hbw.trans ((hb1.trans (hbe.mono hb1.size)).mono hbw.size)⟩
/-- A repair costs at least the distance without the link. -/
theorem rep_cost {g : Gr} {k : Int} {f : Int} {S : List Lb} {L : List Int} (hg : GV g) (hk : Ix g k) (hf : Nd g f) (hs : Sn g f S L) (hp : ∀ (i : Nat) (b : Lb) (a z : Int), S[i]? = some b → L[i]? = some a → L[i + 1]? = some z →
      (b.k = 1 ∧ b.a = z ∧ Nd g a ∧ Nd g z ∧ Sf g (lkOf g k) a z) ∨ (b.k = 2 ∧ ∃ (j : Nat) (m : Lk), b.a = (j : Int) ∧ g.ls[j]? = some m ∧ j ≠ k.toNat ∧ Jn m a z)) :
    ∀ (i : Nat) (a : Int), i ≤ S.length → L[i]? = some a → 0 ≤ D (Wo g k.toNat) f a ∧ D (Wo g k.toNat) f a ≤ cTo g S L i
  | 0, a, _, ha => by
    have h := hs.head
    rw [ha] at h
    cases h
    rw [D_self (wo_gv hg _) (wo_nd.2 hf)]
    exact ⟨Int.le_refl _, Int.le_refl _⟩
  | i + 1, z, hi, hz => by
    have hll := hs.len
    obtain ⟨b, hb⟩ := get_some (show i < S.length by omega)
    obtain ⟨a, ha⟩ := get_some (show i < L.length by omega)
    have ih := rep_cost hg hk hf hs hp i a (by omega) ha
    have hw := wo_gv hg k.toNat
    rw [cTo_succ hb ha hz]
    rcases hp i b a z hb ha hz with ⟨h1, h2, h3, h4, h5⟩ | ⟨h1, j, m, h2, h3, h4, h5⟩
    · have hD := safe_D hg (lk_at hk) h3 h4 h5
      have h6 := D_tri hw (wo_nd.2 hf) (wo_nd.2 h3) (wo_nd.2 h4) ih.1 (by rw [hD]; exact h5.1)
      unfold cst
      rw [if_pos h1]
      omega
    · have hm : m ∈ (Wo g k.toNat).ls := wo_mem.2 ⟨j, h4, h3⟩
      have e : Ed (Wo g k.toNat) a z m.c := ⟨m, hm, rfl, h5⟩
      have h6 := D_edge hw (wo_nd.2 hf) e ih.1
      unfold cst costOf
      rw [if_neg (by omega), h2, Int.toNat_natCast, h3]
      show 0 ≤ _ ∧ _ ≤ _ + m.c
      omega
set_option maxRecDepth 100000 in
set_option maxHeartbeats 1600000 in
theorem lawRepairCost (v : Value) (bs : List Int) (w : World) (hv : SlR bc 1 w w.heap.size v bs) (hm : bs.length ≤ 9223372036854775807 ∧ ∀ n ∈ bs, 0 ≤ n ∧ n ≤ 255) :
    Calls Try.prog 13 #[v] w fun e w' => e = .returned (.bool true) ∧ Below w.heap.size w w' := by
  by_cases hl : 1048576 < bs.length
  · obtain ⟨A, cap, rfl, hc, hr⟩ := hv
    clear hr hm
    go_enter Try.func13, Try.ntmps13
    go_wp2
    go_ret
    exact ⟨rfl, Below.refl _ _⟩
  have hvv := hv
  obtain ⟨A, cap, rfl, hc, hr⟩ := hvv
  have HM := hide hm
  clear hm hr hc
  go_enter Try.func13, Try.ntmps13
  go_wp2_with fail
  refine (drawRS4_any _ bs _ hv HM.out).mono ?_
  rintro e w1 ⟨x1, g, f, k, t, rfl, hO1, hl15, hb1⟩
  obtain ⟨Ag, cg, rfl⟩ := hO1.lit
  obtain ⟨X, hX⟩ : ∃ X, X = w1.heap.size := ⟨_, rfl⟩
  obtain ⟨w2, hw2⟩ : ∃ w2, w2 = w1.alloc (Obj.cells #[.int .i64 g.n, .slice Ag g.ls.length cg] 25) := ⟨_, rfl⟩
  have h12 : Below w1.heap.size w1 w2 := by rw [hw2]; exact below1 _ _
  have HX2 := hide (show Blk w2 X 25 #[.int .i64 g.n, .slice Ag g.ls.length cg] from by rw [hw2, hX]; exact Blk.new _ _ _)
  have HG2 := hide (hO1.grr.up h12)
  have hb2 := hb1.trans (h12.mono hb1.size)
  have hn : g.ls.length ≤ 1048576 := by omega
  have c0 := HX2.out.cell 0
  have c1 := HX2.out.cell 1
  clear hO1 hb1 h12 HM
  go_upto_region 4 with fail
  rw [← hw2, ← hX]
  clear hw2 hX
  obtain ⟨bv, hbv⟩ : ∃ bv, tb (repL g f k t ≠ []) = bv := ⟨_, rfl⟩
  have HBV := hide hbv
  clear hbv
  go_wp2_with fail
  refine (repairStack_any _ g f k t _ HG2.out hn).mono ?_
  rintro e w3 ⟨y3, S, rfl, hO3, hR3, hb3⟩
  rw [HBV.out]
  obtain ⟨A3, k3, rfl, _, _⟩ := hO3.lit
  have HX3 := hide (HX2.out.up hb3)
  have HG3 := hide (HG2.out.up hb3)
  have HR := hide hR3
  have hb03 := hb2.trans (hb3.mono hb2.size)
  clear c0 c1 HX2 HG2 hb2
  have c0 := HX3.out.cell 0
  have c1 := HX3.out.cell 1
  go_wp2_with fail
  refine (specStack_any _ g f k t _ HG3.out hn).mono ?_
  rintro e w4 ⟨y4, S4, rfl, hO4, hR4, hb4⟩
  rw [HBV.out]
  obtain rfl : S4 = S := (hR4.uniq hR3).1
  obtain ⟨A4, k4, rfl, _, _⟩ := hO4.lit
  have hlo : S4.length ≤ 7 := hR3.len
  have hlo' : S4.length ≤ 1048576 := by omega
  have HX4 := hide (HX3.out.up hb4)
  have HG4 := hide (HG3.out.up hb4)
  have HO4 := hide (hO3.below hb4)
  have HW4 := hide hO4
  have hb04 := hb03.trans (hb4.mono hb03.size)
  clear c0 c1 HX3 HG3 hb03 hO3 hO4 hb3 hb4 hR3 hR4
  have c0 := HX4.out.cell 0
  have c1 := HX4.out.cell 1
  have n1 : (bv != bv) = false := by simp
  have n2 : (bv == bv) = true := by simp
  by_cases hp0 : repL g f k t = []
  · have hbf : bv = false := by rw [← HBV.out, tb_no (fun h : repL g f k t ≠ [] => h hp0)]
    subst hbf
    clear hp0
    go_wp2_with fail
    refine (sameL_any _ _ S4 S4 _ (HO4.out.slr lbc_len) (HW4.out.slr lbc_len) hlo' hlo').mono ?_
    rintro e w5 ⟨rfl, hb5⟩
    rw [eqB_self]
    have HX5 := hide (HX4.out.up hb5)
    have HG5 := hide (HG4.out.up hb5)
    have HO5 := hide (HO4.out.below hb5)
    have HW5 := hide (HW4.out.below hb5)
    have hb05 := hb04.trans (hb5.mono hb04.size)
    clear c0 c1 HX4 HG4 HO4 HW4 hb04 hb5
    have c0 := HX5.out.cell 0
    have c1 := HX5.out.cell 1
    go_wp2_with fail
    refine (sameL_any _ _ S4 S4 _ (HO5.out.slr lbc_len) (HW5.out.slr lbc_len) hlo' hlo').mono ?_
    rintro e wz ⟨rfl, hbz⟩
    rw [eqB_self]
    go_wp2
    go_ret
    exact ⟨rfl, hb05.trans (hbz.mono hb05.size)⟩
  have hbf : bv = true := by rw [← HBV.out, tb_yes hp0]
  subst hbf
  have HRP := hide (repL_pt hp0)
  have HGD := hide (HR.out.1 hp0).2
  obtain ⟨P, hP⟩ : ∃ P, P = repL g f k t := ⟨_, rfl⟩
  rw [← hP] at HRP HGD hp0
  have HP := hide hP
  have HP0 := hide hp0
  have hP8 : P.length ≤ 8 := by rw [hP]; exact repL_len g f k t
  have hPp : 0 < P.length := List.length_pos_iff.2 hp0
  clear hP hp0
  go_wp2_with fail
  refine (sameL_any _ _ S4 S4 _ (HO4.out.slr lbc_len) (HW4.out.slr lbc_len) hlo' hlo').mono ?_
  rintro e w5 ⟨rfl, hb5⟩
  rw [eqB_self]
  have HX5 := hide (HX4.out.up hb5)
  have HG5 := hide (HG4.out.up hb5)
  have HO5 := hide (HO4.out.below hb5)
  have HW5 := hide (HW4.out.below hb5)
  have hb05 := hb04.trans (hb5.mono hb04.size)
  clear c0 c1 HX4 HG4 HO4 HW4 hb04 hb5
  have c0 := HX5.out.cell 0
  have c1 := HX5.out.cell 1
  obtain ⟨L, hsn, hlast, hparts⟩ := (HGD.out.good HRP.out.1.1.1 (lk_at HRP.out.1.1.2.1) HRP.out.1.2 HRP.out.2 HRP.out.2.head.1).sn HRP.out.1.2
  have HSN := hide hsn
  have hok : GV g ∧ Ix g k := ⟨HRP.out.1.1.1, HRP.out.1.1.2.1⟩
  have hcost := (rep_cost hok.1 hok.2 HRP.out.1.1.2.2 hsn hparts S4.length t (Nat.le_refl _) hlast).2
  obtain ⟨c, hc⟩ : ∃ c, c = cTo g S4 L S4.length := ⟨_, rfl⟩
  obtain ⟨p, hp⟩ : ∃ p, p = D (Wo g k.toNat) f t := ⟨_, rfl⟩
  rw [← hc, ← hp] at hcost
  have n3 : decide (p ≤ c) = true := decide_eq_true hcost
  have HC := hide hc
  clear hsn hlast hparts hc
  go_wp2_with fail
  refine (without_any _ g k _ HG5.out hn).mono ?_
  rintro e w7 ⟨v7, rfl, hO7, hb7⟩
  rw [woX_yes hok] at hO7
  obtain ⟨G, hG⟩ : ∃ G, G = Wo g k.toNat := ⟨_, rfl⟩
  have hgv := wo_gv hok.1 k.toNat
  have HF : Hid (Nd (Wo g k.toNat) f ∧ Nd (Wo g k.toNat) t) := hide ⟨wo_nd.2 HRP.out.1.1.2.2, wo_nd.2 HRP.out.1.2⟩
  rw [← hG] at hO7 hgv HF hp
  have HGV := hide hgv
  obtain ⟨A7, c7, rfl⟩ := hO7.lit
  have h78 := below1 w7 (Obj.cells #[.int .i64 G.n, .slice A7 G.ls.length c7] 25)
  have hb07 := hb05.trans (hb7.mono hb05.size)
  have hb08 := hb07.trans (h78.mono hb07.size)
  have HGG := hide (hO7.grr.up h78)
  have HX8 := hide ((HX5.out.up hb7).up h78)
  have HG8 := hide ((HG5.out.up hb7).up h78)
  have HO8 := hide ((HO5.out.below hb7).below h78)
  have HY := hide (Blk.new w7 25 #[.int .i64 G.n, .slice A7 G.ls.length c7])
  obtain ⟨Y, hY⟩ : ∃ Y, Y = w7.heap.size := ⟨_, rfl⟩
  obtain ⟨w8, hw8⟩ : ∃ w8, w8 = w7.alloc (Obj.cells #[.int .i64 G.n, .slice A7 G.ls.length c7] 25) := ⟨_, rfl⟩
  rw [← hw8] at hb08 HGG HY HX8 HG8 HO8
  rw [← hY] at HY
  clear c0 c1 HX5 HG5 HO5 HW5 hb05 hb7 hb07 h78 hO7 hG hgv
  go_upto_region 9 with fail
  rw [← hw8, ← hY]
  clear hw8 hY
  have c0 := HX8.out.cell 0
  have c1 := HX8.out.cell 1
  have d0 := HY.out.cell 0
  have d1 := HY.out.cell 1
  have e0 := fun y => wext_cell w8 y c0
  have e1 := fun y => wext_cell w8 y c1
  have e2 := fun y => wext_cell w8 y d0
  have e3 := fun y => wext_cell w8 y d1
  have hq1 := fun y => stackCost_any _ (.slice A3 S4.length k3) g f S4 L (wext w8 y) (HG8.out.up (wext_below w8 y)) hn HRP.out.1.1.1 ((HO8.out.slr lbc_len).up (wext_below w8 y)) (by omega) HSN.out
  have hq2 := fun y => dist_any _ G f t (wext w8 y) (HGG.out.up (wext_below w8 y)) HGV.out HF.out.1 HF.out.2
  rw [← HC.out] at hq1
  rw [← hp] at hq2
  have HQ1 := hide hq1
  have HQ2 := hide hq2
  clear hq1 hq2 hp c0 c1 d0 d1 hok hcost
  refine region_q (by kernel_rfl) (by kernel_rfl) ?_
  repeat (go_big_quiet_step ((first | (go_at_call 45; with_reducible exact q_call (HQ1.out _)) | (go_at_call 38; with_reducible exact q_call (HQ2.out _)))))
  refine wpQuiet_nil ?_
  intro wx hbx
  go_wp2
  go_ret
  exact ⟨by first | rfl | exact ret_bool n3, hb08.trans (hbx.mono hb08.size)⟩
theorem good_shift {g : Gr} {k : Nat} {l : Lk} {x y : Int} {S : List Lb} (hg : GV g) (hl : g.ls[k]? = some l) (hy : Nd g y) (h : Good g k l y x S) :
    ∃ L, Sn g x S L ∧ L[S.length]? = some y ∧ Sn (Wo g k) x (S.map (shift k)) L ∧ (∀ (i : Nat) (b : Lb), S[i]? = some b → b.k = 1 ∨ b.k = 2) ∧ ∀ (i : Nat) (b : Lb) (a z : Int), S[i]? = some b → L[i]? = some a → L[i + 1]? = some z → cst (Wo g k) a (shift k b) z = cst g a b z := by
  induction h with
  | nil => exact ⟨_, .nil hy, rfl, .nil (wo_nd.2 hy), fun i b hb => by simp at hb, fun i b a z hb => by simp at hb⟩
  | node h1 h2 h3 h4 ih =>
    rename_i x z S
    obtain ⟨L, e1, e2, e3, e4, e5⟩ := ih
    have e : shift k ⟨1, z⟩ = ⟨1, z⟩ := by unfold shift; rw [if_neg (by simp)]
    have hD := safe_D hg hl h1 h2 h3
    refine ⟨_, .cons (.inl ⟨rfl, rfl, h1, h2, h3.1⟩) e1, by simpa using e2, ?_, fun i b hb => ?_, fun i b a z' hb ha hz => ?_⟩
    · rw [List.map_cons, e]
      exact .cons (.inl ⟨rfl, rfl, wo_nd.2 h1, wo_nd.2 h2, by rw [hD]; exact h3.1⟩) e3
    · cases i with
      | zero => simp at hb; subst hb; exact .inl rfl
      | succ i => exact e4 i b (by simpa using hb)
    · cases i with
      | zero =>
        simp at hb ha hz
        subst hb; subst ha
        have := e1.head
        rw [hz] at this
        cases this
        rw [e]
        unfold cst
        rw [if_pos rfl, if_pos rfl, hD]
      | succ i => exact e5 i b a z' (by simpa using hb) (by simpa using ha) (by simpa using hz)
  | link h1 h2 h3 h4 ih =>
    rename_i x z j m S
    obtain ⟨L, e1, e2, e3, e4, e5⟩ := ih
    obtain ⟨j', e, hm⟩ : ∃ j' : Nat, shift k ⟨2, j⟩ = ⟨2, j'⟩ ∧ (Wo g k).ls[j']? = some m := by
      by_cases hjk : j < k
      · refine ⟨j, ?_, by rw [wo_get, if_pos hjk]; exact h1⟩
        unfold shift
        rw [if_neg (by simp only; omega)]
      · refine ⟨j - 1, ?_, by rw [wo_get, if_neg (by omega), show j - 1 + 1 = j from by omega]; exact h1⟩
        unfold shift
        rw [if_pos ⟨rfl, by simp only; omega⟩, show ((j - 1 : Nat) : Int) = (j : Int) - 1 from by omega]
    refine ⟨_, .cons (.inr ⟨rfl, _, _, rfl, h1, h3⟩) e1, by simpa using e2, ?_, fun i b hb => ?_, fun i b a z' hb ha hz => ?_⟩
    · rw [List.map_cons, e]
      exact .cons (.inr ⟨rfl, _, _, rfl, hm, h3⟩) e3
    · cases i with
      | zero => simp at hb; subst hb; exact .inr rfl
      | succ i => exact e4 i b (by simpa using hb)
    · cases i with
      | zero =>
        simp at hb ha hz
        subst hb
        rw [e]
        unfold cst costOf
        simp [h1, hm]
      | succ i => exact e5 i b a z' (by simpa using hb) (by simpa using ha) (by simpa using hz)
theorem cTo_shift {g G : Gr} {k : Nat} {S : List Lb} {L : List Int} (hL : L.length = S.length + 1) (h : ∀ (i : Nat) (b : Lb) (a z : Int), S[i]? = some b → L[i]? = some a → L[i + 1]? = some z → cst G a (shift k b) z = cst g a b z) :
    ∀ i, i ≤ S.length → cTo G (S.map (shift k)) L i = cTo g S L i
  | 0, _ => rfl
  | i + 1, hi => by
    obtain ⟨b, hb⟩ := get_some (show i < S.length by omega)
    obtain ⟨a, ha⟩ := get_some (show i < L.length by omega)
    obtain ⟨z, hz⟩ := get_some (show i + 1 < L.length by omega)
    rw [cTo_succ hb ha hz, cTo_succ (b := shift k b) (by rw [List.getElem?_map, hb]; rfl) ha hz, cTo_shift hL h i (by omega), h i b a z hb ha hz]
theorem own_fresh_ne {e : TypeId} {w : World} {base : Nat} {v : Value} {l : List Lb} (h : Own lbc e 2 w base v l) (o : Obj) (i : Nat) (u : Value) : Own lbc e 2 ((w.alloc o).setCell ⟨w.heap.size, i, none⟩ u) base v l :=
  own_far (h.below (below1 w o)) (fun q hq => by have := (World.ownsRow.lt h q hq).2; show q ≠ w.heap.size; omega) _
set_option maxRecDepth 100000 in
set_option maxHeartbeats 1600000 in
theorem lawRepairAfter (v : Value) (bs : List Int) (w : World) (hv : SlR bc 1 w w.heap.size v bs) (hm : bs.length ≤ 9223372036854775807 ∧ ∀ n ∈ bs, 0 ≤ n ∧ n ≤ 255) :
    Calls Try.prog 12 #[v] w fun e w' => e = .returned (.bool true) ∧ Below w.heap.size w w' := by
  by_cases hl : 1048576 < bs.length
  · obtain ⟨A, cap, rfl, hc, hr⟩ := hv
    clear hr hm
    go_enter Try.func12, Try.ntmps12
    go_wp2
    go_ret
    exact ⟨rfl, Below.refl _ _⟩
  have hvv := hv
  obtain ⟨A, cap, rfl, hc, hr⟩ := hvv
  have HM := hide hm
  clear hm hr hc
  go_enter Try.func12, Try.ntmps12
  go_wp2_with fail
  refine (drawRS4_any _ bs _ hv HM.out).mono ?_
  rintro e w1 ⟨x1, g, f, k, t, rfl, hO1, hl15, hb1⟩
  obtain ⟨Ag, cg, rfl⟩ := hO1.lit
  obtain ⟨X, hX⟩ : ∃ X, X = w1.heap.size := ⟨_, rfl⟩
  obtain ⟨w2, hw2⟩ : ∃ w2, w2 = w1.alloc (Obj.cells #[.int .i64 g.n, .slice Ag g.ls.length cg] 25) := ⟨_, rfl⟩
  have h12 : Below w1.heap.size w1 w2 := by rw [hw2]; exact below1 _ _
  have HX2 := hide (show Blk w2 X 25 #[.int .i64 g.n, .slice Ag g.ls.length cg] from by rw [hw2, hX]; exact Blk.new _ _ _)
  have HG2 := hide (hO1.grr.up h12)
  have hb2 := hb1.trans (h12.mono hb1.size)
  have hn : g.ls.length ≤ 1048576 := by omega
  have c0 := HX2.out.cell 0
  have c1 := HX2.out.cell 1
  clear hO1 hb1 h12 HM
  go_upto_region 4 with fail
  rw [← hw2, ← hX]
  clear hw2 hX
  obtain ⟨bv, hbv⟩ : ∃ bv, tb (repL g f k t ≠ []) = bv := ⟨_, rfl⟩
  have HBV := hide hbv
  clear hbv
  go_wp2_with fail
  refine (repairStack_any _ g f k t _ HG2.out hn).mono ?_
  rintro e w3 ⟨y3, S, rfl, hO3, hR3, hb3⟩
  rw [HBV.out]
  obtain ⟨A3, k3, rfl, _, _⟩ := hO3.lit
  have HX3 := hide (HX2.out.up hb3)
  have HG3 := hide (HG2.out.up hb3)
  have HR := hide hR3
  have hb03 := hb2.trans (hb3.mono hb2.size)
  clear c0 c1 HX2 HG2 hb2
  have c0 := HX3.out.cell 0
  have c1 := HX3.out.cell 1
  go_wp2_with fail
  refine (specStack_any _ g f k t _ HG3.out hn).mono ?_
  rintro e w4 ⟨y4, S4, rfl, hO4, hR4, hb4⟩
  rw [HBV.out]
  obtain rfl : S4 = S := (hR4.uniq hR3).1
  obtain ⟨A4, k4, rfl, _, _⟩ := hO4.lit
  have hlo : S4.length ≤ 7 := hR3.len
  have hlo' : S4.length ≤ 1048576 := by omega
  have HX4 := hide (HX3.out.up hb4)
  have HG4 := hide (HG3.out.up hb4)
  have HO4 := hide (hO3.below hb4)
  have HW4 := hide hO4
  have hb04 := hb03.trans (hb4.mono hb03.size)
  clear c0 c1 HX3 HG3 hb03 hO3 hO4 hb3 hb4 hR3 hR4
  have c0 := HX4.out.cell 0
  have c1 := HX4.out.cell 1
  have n1 : (bv != bv) = false := by simp
  have n2 : (bv == bv) = true := by simp
  by_cases hp0 : repL g f k t = []
  · have hbf : bv = false := by rw [← HBV.out, tb_no (fun h : repL g f k t ≠ [] => h hp0)]
    subst hbf
    clear hp0
    go_wp2_with fail
    refine (sameL_any _ _ S4 S4 _ (HO4.out.slr lbc_len) (HW4.out.slr lbc_len) hlo' hlo').mono ?_
    rintro e w5 ⟨rfl, hb5⟩
    rw [eqB_self]
    have HX5 := hide (HX4.out.up hb5)
    have HG5 := hide (HG4.out.up hb5)
    have HO5 := hide (HO4.out.below hb5)
    have HW5 := hide (HW4.out.below hb5)
    have hb05 := hb04.trans (hb5.mono hb04.size)
    clear c0 c1 HX4 HG4 HO4 HW4 hb04 hb5
    have c0 := HX5.out.cell 0
    have c1 := HX5.out.cell 1
    go_wp2_with fail
    refine (sameL_any _ _ S4 S4 _ (HO5.out.slr lbc_len) (HW5.out.slr lbc_len) hlo' hlo').mono ?_
    rintro e wz ⟨rfl, hbz⟩
    rw [eqB_self]
    go_wp2
    go_ret
    exact ⟨rfl, hb05.trans (hbz.mono hb05.size)⟩
  have hbf : bv = true := by rw [← HBV.out, tb_yes hp0]
  subst hbf
  have HRP := hide (repL_pt hp0)
  have HGD := hide (HR.out.1 hp0).2
  obtain ⟨P, hP⟩ : ∃ P, P = repL g f k t := ⟨_, rfl⟩
  rw [← hP] at HRP HGD hp0
  have HP := hide hP
  have HP0 := hide hp0
  have hP8 : P.length ≤ 8 := by rw [hP]; exact repL_len g f k t
  have hPp : 0 < P.length := List.length_pos_iff.2 hp0
  clear hP hp0
  go_wp2_with fail
  refine (sameL_any _ _ S4 S4 _ (HO4.out.slr lbc_len) (HW4.out.slr lbc_len) hlo' hlo').mono ?_
  rintro e w5 ⟨rfl, hb5⟩
  rw [eqB_self]
  have HX5 := hide (HX4.out.up hb5)
  have HG5 := hide (HG4.out.up hb5)
  have HO5 := hide (HO4.out.below hb5)
  have HW5 := hide (HW4.out.below hb5)
  have hb05 := hb04.trans (hb5.mono hb04.size)
  clear c0 c1 HX4 HG4 HO4 HW4 hb04 hb5
  have c0 := HX5.out.cell 0
  have c1 := HX5.out.cell 1
  obtain ⟨kn, hkn⟩ := Int.eq_ofNat_of_zero_le HRP.out.1.1.2.1.1
  subst hkn
  have hgood := HGD.out.good HRP.out.1.1.1 (lk_at HRP.out.1.1.2.1) HRP.out.1.2 HRP.out.2 HRP.out.2.head.1
  obtain ⟨L, hsn, hlast, hsn2, hkind, hcst⟩ := good_shift HRP.out.1.1.1 (lk_at HRP.out.1.1.2.1) HRP.out.1.2 hgood
  rw [Int.toNat_natCast] at hsn2 hcst
  have hok : GV g ∧ Ix g (kn : Int) := ⟨HRP.out.1.1.1, HRP.out.1.1.2.1⟩
  obtain ⟨c, hc⟩ : ∃ c, c = cTo g S4 L S4.length := ⟨_, rfl⟩
  have HC1 := hide hc
  have HC2 : Hid (c = cTo (Wo g kn) (S4.map (shift kn)) L (S4.map (shift kn)).length) := hide (by rw [hc, List.length_map, cTo_shift hsn.len hcst _ (Nat.le_refl _)])
  have hbaB : ∀ (i : Nat) (ba : Int), S4[i]? = some ⟨2, ba⟩ → (kn : Int) < ba → ba ≤ 1048576 := fun i ba hb hgt => by
    obtain ⟨a, z, ha, hz, hst⟩ := hsn.at hb
    rcases hst with ⟨h1, _⟩ | ⟨_, j, m, h2, h3, _⟩
    · simp at h1
    · simp only at h2
      have := get_lt h3
      omega
  have HSN := hide hsn
  have HSN2 := hide hsn2
  have HLAST := hide hlast
  have HKIND := hide hkind
  clear hsn hlast hsn2 hkind hcst hgood hc
  go_wp2_with fail
  refine (without_any _ g (kn : Int) _ HG5.out hn).mono ?_
  rintro e w7 ⟨v7, rfl, hO7, hb7⟩
  rw [woX_yes hok, Int.toNat_natCast] at hO7
  obtain ⟨G, hG⟩ : ∃ G, G = Wo g kn := ⟨_, rfl⟩
  have hgv := wo_gv hok.1 kn
  have hGl : (Wo g kn).ls.length ≤ 1048576 := Nat.le_trans (List.length_eraseIdx_le _ _) hn
  rw [← hG] at hO7 hgv HC2 HSN2 hGl
  have HGV := hide hgv
  obtain ⟨A7, c7, rfl⟩ := hO7.lit
  have h78 := below1 w7 (Obj.cells #[.int .i64 G.n, .slice A7 G.ls.length c7] 25)
  have hb07 := hb05.trans (hb7.mono hb05.size)
  have hb08 := hb07.trans (h78.mono hb07.size)
  have HGG := hide (hO7.grr.up h78)
  have HX8 := hide ((HX5.out.up hb7).up h78)
  have HG8 := hide ((HG5.out.up hb7).up h78)
  have HO8 := hide ((HO5.out.below hb7).below h78)
  have HY := hide (Blk.new w7 25 #[.int .i64 G.n, .slice A7 G.ls.length c7])
  obtain ⟨Y, hY⟩ : ∃ Y, Y = w7.heap.size := ⟨_, rfl⟩
  obtain ⟨w8, hw8⟩ : ∃ w8, w8 = w7.alloc (Obj.cells #[.int .i64 G.n, .slice A7 G.ls.length c7] 25) := ⟨_, rfl⟩
  rw [← hw8] at hb08 HGG HY HX8 HG8 HO8
  rw [← hY] at HY
  have hE : Own lbc 57 2 (w8.alloc (.cells #[] 57)) w8.heap.size (.slice (some ⟨w8.heap.size, 0, none⟩) 0 0) ((S4.take 0).map (shift kn)) := ownE w8 _ (Nat.le_refl _)
  have HE := hide hE
  have h89 := below1 w8 (Obj.cells #[] 57)
  clear c0 c1 HX5 HG5 HO5 HW5 hb05 hb7 hb07 h78 hO7 hG hgv hE hok
  go_upto_region 9 with fail
  rw [← hw8, ← hY]
  clear hw8 hY
  go_upto_region 11 with fail
  go_loopg [13, 14] (S4.length) (fun gg rv iv wr => ∃ (i : Nat) (A5 : Option Addr) (c5 : Nat), i + gg = S4.length ∧ rv = .slice A5 i c5 ∧ iv = .int .i64 i ∧ Below w8.heap.size w8 wr ∧ Hid (Own lbc 57 2 wr w8.heap.size (.slice A5 i c5) ((S4.take i).map (shift kn))))
  case atStart => exact ⟨0, _, _, by omega, rfl, rfl, h89, HE⟩
  case round =>
    clear HE h89
    obtain ⟨i, A5, c5, hi, rfl, rfl, hbe, HO⟩ := hrel
    by_cases hlt : i < S4.length
    · obtain ⟨b, hb⟩ := get_some hlt
      have hkd := HKIND.out i b hb
      obtain ⟨o3, cp3, he, _, _⟩ := HO8.out.form (by omega)
      have hA3 : A3 = some ⟨o3, 0, none⟩ := by injection he
      subst hA3
      have hla := labAt ((HO8.out.below hbe).rows lbc_len (by omega)) hb
      rw [Nat.zero_add] at hla
      obtain ⟨d1, d2⟩ := hla
      have HBI := hide hb
      obtain ⟨bk, ba⟩ := b
      simp only at d1 d2 hkd
      have h1d := below1 wr (Obj.cells #[.int .i64 bk, .int .i64 ba] 57)
      have HK := hide (Blk.new wr 57 #[.int .i64 bk, .int .i64 ba])
      have HOd := hide (HO.out.below h1d)
      have hbd := hbe.trans (h1d.mono hbe.size)
      have HOF := hide (fun u => own_fresh_ne HO.out (Obj.cells #[.int .i64 bk, .int .i64 ba] 57) 1 u)
      obtain ⟨Z, hZ⟩ : ∃ Z, Z = wr.heap.size := ⟨_, rfl⟩
      have hZ8 : w8.heap.size ≤ Z := by rw [hZ]; exact hbe.size
      obtain ⟨wd, hwd⟩ : ∃ wd, wd = wr.alloc (Obj.cells #[.int .i64 bk, .int .i64 ba] 57) := ⟨_, rfl⟩
      rw [← hwd] at HK HOd hbd HOF
      rw [← hZ] at HK HOF
      have m0 := HK.out.cell 0
      have m1 := HK.out.cell 1
      have y1 := HK.out.free 1
      clear h1d HO hb he
      go_upto_region 14 with fail
      rw [← hwd, ← hZ]
      clear hwd hZ d1 d2
      rcases hkd with hk1 | hk2
      · subst hk1
        have HKB := HK
        have HOB := HOd
        have hbB := hbd
        have HSS : Hid ((S4.take (i + 1)).map (shift kn) = (S4.take i).map (shift kn) ++ [⟨1, ba⟩]) := hide (by
          rw [List.take_add_one, HBI.out, List.map_append]
          show _ ++ [shift kn ⟨1, ba⟩] = _
          unfold shift
          rw [if_neg (by simp)])
        have HSL : Hid (((S4.take (i + 1)).map (shift kn)).length = i + 1) := hide (by simp; omega)
        have k0 := HKB.out.cell 0
        have k1 := HKB.out.cell 1
        go_upto_region 16 with fail
        go_upto_region 12 with (at_builtin; refine wpList_appN (by rfl) infLb (.tmp 95) (.tmp 97) (by rfl) _ _ (by rfl) (by rfl) w8 ((S4.take i).map (shift kn)) [⟨1, ba⟩] ((S4.take (i + 1)).map (shift kn)) (i + 1) HSS.out HSL.out (HOB.out.below (below1 _ _)) (hbB.trans ((below1 _ _).mono hbB.size)) (slr_lab _ ⟨1, ba⟩) (by omega) ?_; intro Ay capy w4 hO4 hg4 hb4)
        have HO4 := hide hO4
        clear hO4 hg4 k0 k1
        go_wp2
        go_roundg (gk - 1)
        case measure => omega
        case rel => exact ⟨i + 1, _, _, by omega, rfl, by go_num, hb4, HO4⟩
      · subst hk2
        by_cases hgt : (kn : Int) < ba
        · have HKB : Hid (Blk (wd.setCell ⟨Z, 1, none⟩ (.int .i64 (ba - 1))) Z 57 #[.int .i64 2, .int .i64 (ba - 1)]) := hide (HK.out.put 1 _)
          have HOB := hide (HOF.out (.int .i64 (ba - 1)))
          have hbB := hbd.setCell (p := ⟨Z, 1, none⟩) (by show w8.heap.size ≤ Z; exact hZ8) (.int .i64 (ba - 1))
          have HGT := hide hgt
          have hba : ba ≤ 1048576 := hbaB i ba HBI.out hgt
          obtain ⟨wB, hwB⟩ : ∃ wB, wB = wd.setCell ⟨Z, 1, none⟩ (.int .i64 (ba - 1)) := ⟨_, rfl⟩
          rw [← hwB] at HKB HOB hbB
          go_upto_region 16 with fail
          rw [← hwB]
          clear hwB m0 m1 y1
          have HSS : Hid ((S4.take (i + 1)).map (shift kn) = (S4.take i).map (shift kn) ++ [⟨2, (ba - 1)⟩]) := hide (by
            rw [List.take_add_one, HBI.out, List.map_append]
            show _ ++ [shift kn ⟨2, ba⟩] = _
            unfold shift
            rw [if_pos ⟨rfl, HGT.out⟩])
          have HSL : Hid (((S4.take (i + 1)).map (shift kn)).length = i + 1) := hide (by simp; omega)
          have k0 := HKB.out.cell 0
          have k1 := HKB.out.cell 1
          go_upto_region 16 with fail
          go_upto_region 12 with (at_builtin; refine wpList_appN (by rfl) infLb (.tmp 95) (.tmp 97) (by rfl) _ _ (by rfl) (by rfl) w8 ((S4.take i).map (shift kn)) [⟨2, (ba - 1)⟩] ((S4.take (i + 1)).map (shift kn)) (i + 1) HSS.out HSL.out (HOB.out.below (below1 _ _)) (hbB.trans ((below1 _ _).mono hbB.size)) (slr_lab _ ⟨2, (ba - 1)⟩) (by omega) ?_; intro Ay capy w4 hO4 hg4 hb4)
          have HO4 := hide hO4
          clear hO4 hg4 k0 k1
          go_wp2
          go_roundg (gk - 1)
          case measure => omega
          case rel => exact ⟨i + 1, _, _, by omega, rfl, by go_num, hb4, HO4⟩
        · have HKB := HK
          have HOB := HOd
          have hbB := hbd
          have HNG := hide hgt
          have HSS : Hid ((S4.take (i + 1)).map (shift kn) = (S4.take i).map (shift kn) ++ [⟨2, ba⟩]) := hide (by
            rw [List.take_add_one, HBI.out, List.map_append]
            show _ ++ [shift kn ⟨2, ba⟩] = _
            unfold shift
            rw [if_neg (fun h => HNG.out h.2)])
          have HSL : Hid (((S4.take (i + 1)).map (shift kn)).length = i + 1) := hide (by simp; omega)
          have k0 := HKB.out.cell 0
          have k1 := HKB.out.cell 1
          go_upto_region 16 with fail
          go_upto_region 12 with (at_builtin; refine wpList_appN (by rfl) infLb (.tmp 95) (.tmp 97) (by rfl) _ _ (by rfl) (by rfl) w8 ((S4.take i).map (shift kn)) [⟨2, ba⟩] ((S4.take (i + 1)).map (shift kn)) (i + 1) HSS.out HSL.out (HOB.out.below (below1 _ _)) (hbB.trans ((below1 _ _).mono hbB.size)) (slr_lab _ ⟨2, ba⟩) (by omega) ?_; intro Ay capy w4 hO4 hg4 hb4)
          have HO4 := hide hO4
          clear hO4 hg4 k0 k1
          go_wp2
          go_roundg (gk - 1)
          case measure => omega
          case rel => exact ⟨i + 1, _, _, by omega, rfl, by go_num, hb4, HO4⟩
    · have hF : (S4.take i).map (shift kn) = S4.map (shift kn) := by rw [List.take_of_length_le (by omega)]
      have hil : i = S4.length := by omega
      rw [hF] at HO
      clear hF
      subst hil
      obtain ⟨S', hS'⟩ : ∃ S', S' = S4.map (shift kn) := ⟨_, rfl⟩
      have hSl : S'.length = S4.length := by rw [hS', List.length_map]
      rw [← hS'] at HO HC2 HSN2
      have HL2 : Hid (L[S'.length]? = some t) := hide (by rw [hSl]; exact HLAST.out)
      have hS8 : S'.length ≤ 8 := by omega
      clear hS' hSl
      have d0 := (HY.out.up hbe).cell 0
      have d1 := (HY.out.up hbe).cell 1
      go_wp2_with fail
      refine (stackEnd_any _ (.slice A5 S4.length c5) G f t S' L _ (HGG.out.up hbe) hGl HGV.out (HO.out.slr lbc_len) hS8 HSN2.out HL2.out).mono ?_
      rintro e w10 ⟨rfl, hb10⟩
      have hbe2 := hbe.trans (hb10.mono hbe.size)
      have HO2 := hide (HO.out.below hb10)
      clear d0 d1 HO
      have e9 : (t == t) = true := by simp
      have c0 := (HX8.out.up hbe2).cell 0
      have c1 := (HX8.out.up hbe2).cell 1
      have d0 := (HY.out.up hbe2).cell 0
      have d1 := (HY.out.up hbe2).cell 1
      have e0 := fun y => wext_cell w10 y c0
      have e1 := fun y => wext_cell w10 y c1
      have e2 := fun y => wext_cell w10 y d0
      have e3 := fun y => wext_cell w10 y d1
      have hq1 := fun y => stackCost_any _ (.slice A5 S4.length c5) G f S' L (wext w10 y) ((HGG.out.up hbe2).up (wext_below w10 y)) hGl HGV.out ((HO2.out.slr lbc_len).up (wext_below w10 y)) hS8 HSN2.out
      have hq2 := fun y => stackCost_any _ (.slice A3 S4.length k3) g f S4 L (wext w10 y) ((HG8.out.up hbe2).up (wext_below w10 y)) hn HRP.out.1.1.1 (((HO8.out.below hbe2).slr lbc_len).up (wext_below w10 y)) (by omega) HSN.out
      rw [← HC2.out] at hq1
      rw [← HC1.out] at hq2
      have HQ1 := hide hq1
      have HQ2 := hide hq2
      have n3 : (c == c) = true := by simp
      clear hq1 hq2 c0 c1 d0 d1
      go_upto_region 18 with fail
      refine region_q (by kernel_rfl) (by kernel_rfl) ?_
      repeat (go_big_quiet_step ((first | (go_at_call 45; with_reducible exact q_call (HQ1.out _)) | (go_at_call 45; with_reducible exact q_call (HQ2.out _)))))
      refine wpQuiet_nil ?_
      intro wx hbx
      go_wp2
      go_ret
      exact ⟨rfl, hb08.trans ((hbe2.trans (hbx.mono hbe2.size)).mono hb08.size)⟩
end Go.Proofs.Ytenfdekjnelkoaa
