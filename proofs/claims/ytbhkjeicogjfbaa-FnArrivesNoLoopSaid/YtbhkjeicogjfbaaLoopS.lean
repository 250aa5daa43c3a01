/- l1Has, l22Hops, MixedHops, l22Next, MixedLoop and MixedArrives of the reference. Conditions: at most 1048576 links and changed nodes. -/
import Derived.Test.YtbhkjeicogjfbaaHopS
import Derived.Test.YtbhkjeicogjfbaaOrdS
import Derived.Test.YtbhkjeicogjfbaaMixI
namespace Go.Proofs.Ytbhkjeicogjfbaa
open Go.RowKit


set_option maxHeartbeats 400000 in
theorem l1Has_any (v : Value) (L : List Int) (x : Int) (w : World) (hv : SlR ic 1 w w.heap.size v L) (hn : L.length ≤ 1048576) :
    Calls Try.prog 103 #[v, .int .i64 x] w fun e w' => e = .returned (.bool (tb (x ∈ L))) ∧ Below w.heap.size w w' := by
  obtain ⟨A, cap, rfl, hc, hr⟩ := hv
  obtain ⟨P, hP⟩ : ∃ P, P = (x ∈ L) := ⟨_, rfl⟩
  have HP : Hid (P ↔ x ∈ L) := hide (by rw [hP])
  rw [← hP]
  clear hP
  go_enter Try.func103, Try.ntmps103
  go_wp2
  go_loopg [5] (L.length) (fun gg iv wr => ∃ k : Nat, k + gg = L.length ∧ iv = .int .i64 k ∧ Below w.heap.size w wr ∧ Hid (∀ (i : Nat) (y : Int), i < k → L[i]? = some y → y ≠ x))
  case atStart => exact ⟨0, by omega, rfl, Below.refl _ _, hide fun i y h => by omega⟩
  case round =>
    obtain ⟨k, hk, rfl, hbe, HV⟩ := hrel
    by_cases hlt : k < L.length
    · obtain ⟨b, off, rfl, hb, hcell⟩ := hr (by omega)
      obtain ⟨y, hy⟩ := get_some hlt
      have c1 := intAt (hcell.keep (w' := wr) fun p hp => hbe.cell (by omega)) hy
      have HC := hide hy
      clear hy
      by_cases hyx : y = x
      · have e1 : (y == x) = true := by simp [hyx]
        have HY : Hid P := hide (HP.out.2 (by rw [← hyx]; exact List.mem_of_getElem? HC.out))
        clear hyx
        go_wp2
        go_ret
        exact ⟨ret_bool (tb_yes HY.out).symm, hbe⟩
      · have e1 : (y == x) = false := by simp [hyx]
        have HY : Hid (y ≠ x) := hide hyx
        clear hyx
        go_wp2
        go_roundg (gk - 1)
        case measure => omega
        case rel =>
          refine ⟨k + 1, by omega, by go_num, hbe, hide fun i z hi hz => ?_⟩
          rcases Nat.lt_succ_iff_lt_or_eq.1 hi with h | h
          · exact HV.out i z h hz
          · subst h; rw [HC.out] at hz; cases hz; exact HY.out
    · have HN : Hid (¬ P) := hide fun h => by
        obtain ⟨i, hi⟩ := List.mem_iff_getElem?.1 (HP.out.1 h)
        exact HV.out i x (by have := get_lt hi; omega) hi rfl
      go_wp2
      go_ret
      exact ⟨ret_bool (tb_no HN.out).symm, hbe⟩
/-- The numbers kept of the first i of L. -/
def filTo (q : Int → Bool) (L : List Int) (i : Nat) : List Int := (L.take i).filter q
theorem filTo_yes {q : Int → Bool} {L : List Int} {i : Nat} {x : Int} (hx : L[i]? = some x) (h : q x = true) : filTo q L (i + 1) = filTo q L i ++ [x] := by
  unfold filTo
  rw [List.take_add_one, hx, List.filter_append]
  simp [h]
theorem filTo_no {q : Int → Bool} {L : List Int} {i : Nat} {x : Int} (hx : L[i]? = some x) (h : q x = false) : filTo q L (i + 1) = filTo q L i := by
  unfold filTo
  rw [List.take_add_one, hx, List.filter_append]
  simp [h]
theorem filTo_all {q : Int → Bool} {L : List Int} {i : Nat} (h : L.length ≤ i) : filTo q L i = L.filter q := by
  unfold filTo
  rw [List.take_of_length_le h]
theorem filTo_len {q : Int → Bool} (L : List Int) (i : Nat) : (filTo q L i).length ≤ L.length := by
  unfold filTo
  exact Nat.le_trans (List.length_filter_le _ _) (by simp; omega)
set_option maxRecDepth 100000 in
set_option maxHeartbeats 1600000 in
theorem l22Hops_any (v u : Value) (g : Gr) (k y x : Int) (ch : List Int) (w : World) (hv : GrR w w.heap.size v g) (hu : SlR ic 1 w w.heap.size u ch) (hc : ch.length ≤ 1048576) (hK : Ok g y k) (hx : Nd g x) :
    Calls Try.prog 77 #[v, .int .i64 k, .int .i64 y, u, .int .i64 x] w
      fun e w' => ∃ v', e = .returned v' ∧ Own ic 3 1 w' w.heap.size v' (mixR g k y ch x) ∧ Below w.heap.size w w' := by
  have hvv := hv
  obtain ⟨A, cap, rfl, _, _⟩ := hv.form
  obtain ⟨wb, hwb⟩ : ∃ wb, wb = w.alloc (Obj.cells #[.int .i64 g.n, .slice A g.ls.length cap] 25) := ⟨_, rfl⟩
  have hbw : Below w.heap.size w wb := by rw [hwb]; exact below1 _ _
  have hwbs : wb.heap.size = w.heap.size + 1 := by rw [hwb]; simp
  have HB : Hid (Blk wb w.heap.size 25 #[.int .i64 g.n, .slice A g.ls.length cap]) := hide (by rw [hwb]; exact Blk.new _ _ _)
  have HV := hide (hvv.up hbw)
  have HU := hide (hu.up hbw)
  have c0 := HB.out.cell 0
  have c1 := HB.out.cell 1
  clear hvv hv hu
  have hlen := hK.1.len
  have HK := hide hK
  have HX := hide hx
  obtain ⟨nk, rfl⟩ := Int.eq_ofNat_of_zero_le hK.2.1.1
  have hkl : nk < g.ls.length := by have := hK.2.1.2; omega
  obtain ⟨R, hR⟩ : ∃ R, R = mixR g nk y ch x := ⟨_, rfl⟩
  have HR := hide hR
  rw [← hR]
  clear hR hK hx
  go_enter Try.func77, Try.ntmps77
  go_wp2_with fail
  rw [← hwb]
  clear hwb
  refine (l1Has_any _ ch x _ HU.out hc).mono ?_
  rintro e w1 ⟨rfl, hb1⟩
  have HB1 := hide (HB.out.up hb1)
  have HV1 := hide (HV.out.up hb1)
  clear c0 c1
  have c0 := HB1.out.cell 0
  have c1 := HB1.out.cell 1
  by_cases hin : x ∈ ch
  · rw [tb_yes hin]
    have HRE : Hid (hopL (Wo g nk) y x = R) := hide (by rw [HR.out, ← mixR_new hin, Int.toNat_natCast])
    clear hin
    go_wp2_with fail
    refine (l1Without_any _ g nk _ HV1.out (by omega) hkl).mono ?_
    rintro e w2 ⟨v2, rfl, hO2, hb2⟩
    go_wp2_with fail
    refine (l2Hops_any _ (Wo g nk) x y _ hO2.grr (wo_gv HK.out.1 _) HX.out HK.out.2.2).mono ?_
    rintro e w3 ⟨v3, rfl, hO3, hb3⟩
    rw [HRE.out] at hO3
    have HO3 := hide hO3
    have hb13 := hb1.trans ((hb2.trans (hb3.mono hb2.size)).mono hb1.size)
    have hs3 := Nat.le_trans hbw.size (Nat.le_trans hb1.size hb2.size)
    clear c0 c1 hO2 hO3 hb2 hb3 HB1 HV1 hb1
    go_wp2
    go_ret
    exact ⟨_, rfl, HO3.out.low hs3, hbw.trans (hb13.mono hbw.size)⟩
  · rw [tb_no hin]
    have HRE : Hid (R = (hopL g y x).filter fun m => tb (¬ lnk g x m = nk)) := hide (by rw [HR.out, mixR_old HK.out.1 HK.out.2.1 hin])
    clear hin
    have h12 := below1 w1 (Obj.cells #[] 3)
    have hE := ownE (enc := ic) (s := 1) w1 3 (Nat.le_refl _)
    obtain ⟨w2, hw2⟩ : ∃ w2, w2 = w1.alloc (Obj.cells #[] 3) := ⟨_, rfl⟩
    obtain ⟨E, hEE⟩ : ∃ E, E = w1.heap.size := ⟨_, rfl⟩
    rw [← hw2] at h12 hE
    have HE : Hid (Own ic 3 1 w2 w1.heap.size (.slice (some ⟨E, 0, none⟩) 0 0) []) := hide (by rw [hEE]; exact hE)
    have hE2 : E < w2.heap.size := (World.ownsRow.lt HE.out E rfl).2
    have HE2 := hide hE2
    clear hE hE2 c0 c1
    go_upto_region 4 with fail
    rw [← hw2, ← hEE]
    clear hw2 hEE
    have c0 := (HB1.out.up h12).cell 0
    have c1 := (HB1.out.up h12).cell 1
    go_wp2_with fail
    refine (l2Hops_any _ g x y _ (HV1.out.up h12) HK.out.1 HX.out HK.out.2.2).mono ?_
    rintro e w3 ⟨v3, rfl, hO3, hb3⟩
    obtain ⟨H, hH⟩ : ∃ H, H = hopL g y x := ⟨_, rfl⟩
    have hHl : H.length ≤ 8 := by rw [hH]; exact hopL_len HK.out.1 _ _
    rw [← hH] at hO3 HRE
    obtain ⟨A3, k3, rfl, _, _⟩ := hO3.lit
    have hb13 := h12.trans (hb3.mono h12.size)
    have HT : Hid (OutI w1 w3 w3 (.slice (some ⟨E, 0, none⟩) 0 0) [] w2.heap.size) := hide (OutE.start hb13 (HE.out.below hb3) fun q hq => by cases hq; exact HE2.out)
    have HH := hide hO3
    obtain ⟨q, hq⟩ : ∃ q : Int → Bool, q = fun m => tb (¬ lnk g x m = nk) := ⟨_, rfl⟩
    have HQ := hide hq
    rw [← hq] at HRE
    clear c0 c1 hO3 hb3 h12 HE hH hq hb13 HE2
    go_wp2
    go_loopg [11, 13] (H.length) (fun gg rv iv wr => ∃ (i : Nat) (A5 : Option Addr) (c5 : Nat), i + gg = H.length ∧ rv = .slice A5 (filTo q H i).length c5 ∧ iv = .int .i64 i ∧ Hid (OutI w1 w3 wr (.slice A5 (filTo q H i).length c5) (filTo q H i) w2.heap.size))
    case atStart => exact ⟨0, _, _, by omega, rfl, rfl, HT⟩
    case round =>
      clear HT
      obtain ⟨i, A5, c5, hi, rfl, rfl, HO⟩ := hrel
      obtain ⟨L, hL⟩ : ∃ L, L = filTo q H i := ⟨_, rfl⟩
      have HL := hide hL
      have hLl : L.length ≤ 8 := by rw [hL]; exact Nat.le_trans (filTo_len _ _) hHl
      rw [← hL] at HO
      rw [← hL]
      clear hL
      by_cases hlt : i < H.length
      · obtain ⟨m, hm⟩ := get_some hlt
        have HM := hide hm
        obtain ⟨o3, k3', he, _, _⟩ := HH.out.form (by omega)
        obtain ⟨rfl, rfl⟩ : A3 = some ⟨o3, 0, none⟩ ∧ k3 = k3' := by
          injection he with h1 h2 h3
          exact ⟨h1, h3⟩
        have xm := own_int (HO.out.own HH.out (Nat.le_refl _)) hm
        obtain ⟨j, hj⟩ : ∃ j, j = lnk g x m := ⟨_, rfl⟩
        have hcl := fun z => l1Link_any _ g x m (wext wr z) ((HV1.out.up HO.out.bw).up (wext_below wr z)) (by omega)
        rw [← hj] at hcl
        have HCL := hide hcl
        have HJ : Hid (q m = tb (¬ j = nk)) := hide (by rw [HQ.out, hj])
        have e0 := fun z => wext_cell wr z xm
        have e1 := fun z => wext_cell wr z ((HB1.out.up HO.out.bw).cell 0)
        have e2 := fun z => wext_cell wr z ((HB1.out.up HO.out.bw).cell 1)
        clear he hcl hj hm
        by_cases hjk : j = nk
        · have e3 : (j != (nk : Int)) = false := by simp [hjk]
          have HNx : Hid (filTo q H (i + 1) = L) := hide (by rw [filTo_no HM.out (by rw [HJ.out]; exact tb_no fun h => h hjk), HL.out])
          clear hjk xm
          go_upto_region 8 with fail
          refine region_q (by kernel_rfl) (by kernel_rfl) ?_
          repeat (go_big_quiet_step ((first | (go_at_call 105; with_reducible exact q_call (HCL.out _)))))
          refine wpQuiet_nil ?_
          intro wx hbx
          clear e3
          clear e0 e1 e2
          have HO3 := hide (HO.out.below hbx)
          clear HO
          go_wp2
          go_roundg (gk - 1)
          case measure => omega
          case rel => exact ⟨i + 1, _, c5, by omega, by rw [HNx.out], by go_num, by rw [HNx.out]; exact HO3⟩
        · have e3 : (j != (nk : Int)) = true := by simp [hjk]
          have HNx : Hid (filTo q H (i + 1) = L ++ [m]) := hide (by rw [filTo_yes HM.out (by rw [HJ.out]; exact tb_yes hjk), HL.out])
          clear hjk
          go_upto_region 8 with fail
          refine region_q (by kernel_rfl) (by kernel_rfl) ?_
          repeat (go_big_quiet_step ((first | (go_at_call 105; with_reducible exact q_call (HCL.out _)))))
          refine wpQuiet_nil ?_
          intro wx hbx
          have xm2 := (hbx.cell (World.block_lt_of_cell? wr _ xm)).trans xm
          have HO3 := hide (HO.out.below hbx)
          clear e0 e1 e2 e3 xm HO
          go_upto_region 7 with (at_builtin; refine wpList_appO (by rfl) infI (.tmp 43) (.tmp 48) (by rfl) _ _ (by rfl) (by rfl) w1 w3 w2.heap.size L [m] (filTo q H (i + 1)) (filTo q H (i + 1)).length HNx.out rfl (HO3.out.below (below1 _ _)) (slr_lit _ _) (by rw [HNx.out]; simp; omega) ?_; intro Ay capy w4 hO4)
          have HO4 := hide hO4
          clear hO4 HO3 xm2
          go_wp2
          go_roundg (gk - 1)
          case measure => omega
          case rel => exact ⟨i + 1, _, _, by omega, rfl, by go_num, HO4⟩
      · have HHL : Hid (R = L) := hide (by rw [HRE.out, HL.out, filTo_all (by omega)])
        have hs1 := Nat.le_trans hbw.size hb1.size
        have hbf := hbw.trans ((hb1.trans (HO.out.bw.mono hb1.size)).mono hbw.size)
        go_wp2
        go_ret
        exact ⟨_, rfl, by rw [HHL.out]; exact HO.out.o.low hs1, hbf⟩
set_option maxRecDepth 100000 in
set_option maxHeartbeats 1600000 in
theorem specMixed_any (v u : Value) (g : Gr) (k y x : Int) (ch : List Int) (w : World) (hv : GrR w w.heap.size v g) (hm : g.ls.length ≤ 1048576) (hu : SlR ic 1 w w.heap.size u ch) (hc : ch.length ≤ 1048576) :
    Calls Try.prog 27 #[v, .int .i64 k, .int .i64 y, u, .int .i64 x] w
      fun e w' => ∃ v', e = .returned v' ∧ Own ic 3 1 w' w.heap.size v' (mixX g k y ch x) ∧ Below w.heap.size w w' := by
  have hvv := hv
  obtain ⟨A, cap, rfl, _, _⟩ := hv.form
  obtain ⟨wb, hwb⟩ : ∃ wb, wb = w.alloc (Obj.cells #[.int .i64 g.n, .slice A g.ls.length cap] 25) := ⟨_, rfl⟩
  have hbw : Below w.heap.size w wb := by rw [hwb]; exact below1 _ _
  have hwbs : wb.heap.size = w.heap.size + 1 := by rw [hwb]; simp
  have HB : Hid (Blk wb w.heap.size 25 #[.int .i64 g.n, .slice A g.ls.length cap]) := hide (by rw [hwb]; exact Blk.new _ _ _)
  have HV := hide (hvv.up hbw)
  have HU := hide (hu.up hbw)
  have c0 := HB.out.cell 0
  have c1 := HB.out.cell 1
  clear hvv hv hu
  obtain ⟨R, hR⟩ : ∃ R, R = mixX g k y ch x := ⟨_, rfl⟩
  have HR := hide hR
  rw [← hR]
  clear hR hwbs
  go_enter Try.func27, Try.ntmps27
  go_wp2_with fail
  rw [← hwb]
  clear hwb
  refine (l21Ok_any _ g x k y _ HV.out hm).mono ?_
  rintro e w1 ⟨rfl, hb1⟩
  have HB1 := hide (HB.out.up hb1)
  have HV1 := hide (HV.out.up hb1)
  have HU1 := hide (HU.out.up hb1)
  have hb01 := hbw.trans (hb1.mono hbw.size)
  clear c0 c1 HB HV HU hbw
  have c0 := HB1.out.cell 0
  have c1 := HB1.out.cell 1
  by_cases hK : Ok g x k ∧ Nd g y
  · rw [tb_yes hK]
    have HK : Hid (Ok g y k) := hide ⟨hK.1.1, hK.1.2.1, hK.2⟩
    have HX := hide hK.1.2.2
    have HRE : Hid (mixR g k y ch x = R) := hide (by rw [HR.out, mixX, okL_yes hK])
    clear hK
    go_wp2_with fail
    refine (l22Hops_any _ u g k y x ch _ HV1.out HU1.out hc HK.out HX.out).mono ?_
    rintro e w2 ⟨v2, rfl, hO2, hb2⟩
    rw [HRE.out] at hO2
    have HO2 := hide hO2
    clear hO2
    go_wp2
    go_ret
    exact ⟨_, rfl, HO2.out.low hb01.size, hb01.trans (hb2.mono hb01.size)⟩
  · rw [tb_no hK]
    have HRE : Hid (R = []) := hide (by rw [HR.out, mixX, okL_no hK])
    clear hK
    have hE := ownE (enc := ic) (s := 1) w1 3 hb01.size
    have hb2 := below1 w1 (Obj.cells #[] 3)
    have HE := hide hE
    clear hE
    go_wp2
    go_ret
    exact ⟨_, rfl, by rw [HRE.out]; exact HE.out, hb01.trans (hb2.mono hb01.size)⟩


/-! ### One step forward -/
/-- O: what can be next from the nodes of S below n. -/
def Nx (R : Int → List Int) (S : List Bool) (n : Int) (O : List Bool) : Prop := ∀ x, bAt O x ↔ ∃ z : Int, (0 ≤ z ∧ z < n) ∧ bAt S z ∧ x ∈ R z
/-- And from n itself, over the first i of its hops. -/
def NxI (R : Int → List Int) (S : List Bool) (n : Int) (i : Nat) (O : List Bool) : Prop := ∀ x, bAt O x ↔ (∃ z : Int, (0 ≤ z ∧ z < n) ∧ bAt S z ∧ x ∈ R z) ∨ (bAt S n ∧ x ∈ (R n).take i)
section
variable {R : Int → List Int} {S O : List Bool} {n : Int} {i N : Nat}
theorem nx_start (R : Int → List Int) (S : List Bool) (N : Nat) : Nx R S 0 (List.replicate N false) := fun x => ⟨fun h => absurd h bAt_no, fun ⟨z, h, _⟩ => by omega⟩
theorem Nx.into (h : Nx R S n O) : NxI R S n 0 O := fun x => by rw [h x]; simp
theorem NxI.step (h : NxI R S n i O) (hs : bAt S n) {m : Nat} (hm : (R n)[i]? = some (m : Int)) (hmO : m < O.length) : NxI R S n (i + 1) (O.set m true) := by
  intro x
  rw [bAt_set hmO, h x, List.take_add_one, hm]
  simp only [Option.toList_some, List.mem_append, List.mem_singleton]
  by_cases hx : x = m
  · subst hx
    simp [hs]
  · simp [hx]
theorem NxI.stop (h : NxI R S n i O) (hn : 0 ≤ n) (hi : bAt S n → (R n).length ≤ i) : Nx R S (n + 1) O := by
  intro x
  rw [h x]
  constructor
  · rintro (⟨z, h1, h2, h3⟩ | ⟨h1, h2⟩)
    · exact ⟨z, by omega, h2, h3⟩
    · exact ⟨n, by omega, h1, List.mem_of_mem_take h2⟩
  · rintro ⟨z, h1, h2, h3⟩
    by_cases hz : z = n
    · subst hz
      exact .inr ⟨h2, by rw [List.take_of_length_le (hi h2)]; exact h3⟩
    · exact .inl ⟨z, by omega, h2, h3⟩
theorem Nx.fwd (hS : S.length = N) {i : Nat} {a : Int} (h : Nx R S N O) (hF : ∀ x, bAt S x ↔ Fwd R i a x) : ∀ x, bAt O x ↔ Fwd R (i + 1) a x := by
  intro x
  rw [h x]
  constructor
  · rintro ⟨z, _, h1, h2⟩
    exact ⟨z, (hF z).1 h1, h2⟩
  · rintro ⟨z, h1, h2⟩
    have h3 := (hF z).2 h1
    have := bAt_lt h3
    exact ⟨z, by omega, h3, h2⟩
theorem fwd_start {k N : Nat} (hk : k < N) : ∀ x, bAt ((List.replicate N false).set k true) x ↔ Fwd R 0 (k : Int) x := by
  intro x
  rw [bAt_set (by simpa using hk)]
  constructor
  · rintro (h | h)
    · exact h.1
    · exact absurd h.2 bAt_no
  · intro h
    exact .inl ⟨h, rfl⟩
end
/-- The state: the Bools O in block ob, all older memory as it was. -/
structure NxS (wb W : World) (ob N : Nat) (O : List Bool) : Prop where
  bw : Below wb.heap.size wb W
  o : Own blc 4 1 W wb.heap.size (.slice (some ⟨ob, 0, none⟩) N N) O
section
variable {wb W W' : World} {ob N : Nat} {O : List Bool}
theorem NxS.below (h : NxS wb W ob N O) (hb : Below W.heap.size W W') : NxS wb W' ob N O := ⟨h.bw.trans (hb.mono h.bw.size), h.o.below hb⟩
theorem NxS.len (h : NxS wb W ob N O) : O.length = N := h.o.caps.1.symm
theorem NxS.set (h : NxS wb W ob N O) {k : Nat} (hk : k < N) (b : Bool) : NxS wb (W.setCell ⟨ob, k, none⟩ (.bool b)) ob N (O.set k b) := by
  have hl := h.len
  obtain ⟨x, hx⟩ := get_some (l := O) (i := k) (by omega)
  have s1 := h.o.set blc_len (k := k) (j := 0) (x := x) (y := b) (u := .bool b) hl.symm hx (by decide) rfl
  rw [Nat.mul_one, Nat.add_zero] at s1
  exact ⟨h.bw.setCell (by have h2 := h.o; unfold Own at h2; rw [hl] at h2; exact (World.ownsRow.lt h2 ob rfl).1) _, s1⟩
theorem NxS.slot (h : NxS wb W ob N O) {k : Nat} (hk : k < N) : (∃ u, W.cell? ⟨ob, k, none⟩ = some u) ∧ W.frozen? ⟨ob, k, none⟩ = false := by
  have := h.o.slot (k := k) (j := 0) h.len.symm (by rw [h.len]; exact hk) (by decide)
  rwa [Nat.mul_one, Nat.add_zero] at this
/-- Ints of the call's own beside it. -/
theorem NxS.ints (h : NxS wb W ob N O) {base k : Nat} {v : Value} {L : List Int} (hL : Own ic 3 1 W base v L) (u : Value) : Own ic 3 1 (W.setCell ⟨ob, k, none⟩ u) base v L :=
  own_far' hL (fun hq => own_types h.o hL (by decide) ob rfl hq) u
end

set_option maxRecDepth 100000 in
set_option maxHeartbeats 1600000 in
theorem l22Next_any (v u s : Value) (g : Gr) (k y : Int) (ch : List Int) (S : List Bool) (w : World) (hv : GrR w w.heap.size v g) (hu : SlR ic 1 w w.heap.size u ch) (hc : ch.length ≤ 1048576) (hK : Ok g y k) (hs : SlR blc 1 w w.heap.size s S) (hS : S.length = g.n.toNat) :
    Calls Try.prog 85 #[v, .int .i64 k, .int .i64 y, u, s] w
      fun e w' => ∃ v', e = .returned v' ∧ (∃ O, Own blc 4 1 w' w.heap.size v' O ∧ O.length = g.n.toNat ∧ Nx (mixR g k y ch) S g.n.toNat O) ∧ Below w.heap.size w w' := by
  have hvv := hv
  obtain ⟨A, cap, rfl, hfc, hfr⟩ := hv.form
  clear hfc hfr
  obtain ⟨wb, hwb⟩ : ∃ wb, wb = w.alloc (Obj.cells #[.int .i64 g.n, .slice A g.ls.length cap] 25) := ⟨_, rfl⟩
  have hbw : Below w.heap.size w wb := by rw [hwb]; exact below1 _ _
  have hwbs : wb.heap.size = w.heap.size + 1 := by rw [hwb]; simp
  have HB : Hid (Blk wb w.heap.size 25 #[.int .i64 g.n, .slice A g.ls.length cap]) := hide (by rw [hwb]; exact Blk.new _ _ _)
  have HV := hide (hvv.up hbw)
  have HU := hide (hu.up hbw)
  have c0 := HB.out.cell 0
  have c1 := HB.out.cell 1
  clear hvv hv hu
  have HK := hide hK
  have HS := hide (hs.up hbw)
  clear hs
  have hn1 := HK.out.1.n.1
  have hn2 := HK.out.1.n.2
  obtain ⟨N, hN⟩ : ∃ N : Nat, g.n = N := ⟨g.n.toNat, by omega⟩
  have HN := hide hN
  obtain ⟨R, hRR⟩ : ∃ R, R = mixR g k y ch := ⟨_, rfl⟩
  have HRR := hide hRR
  have HRI : Hid (∀ x m : Int, m ∈ R x → 0 ≤ m ∧ m < (N : Int)) := hide (by
    intro x m h
    rw [hRR] at h
    have := mixR_in HK.out.1 x m h
    omega)
  have HRL : Hid (∀ x : Int, (R x).length ≤ 8) := hide (by
    intro x
    rw [hRR]
    exact mixR_len HK.out.1 _ _ _ _)
  have hN1 : 1 ≤ N := by omega
  have hN8 : N ≤ 8 := by omega
  have hNt : g.n.toNat = N := by omega
  rw [hNt, ← hRR]
  rw [hNt] at hS
  rw [hN] at HB c0
  clear hN hRR hNt hK hn1 hn2
  obtain ⟨As, cs, rfl, _, _⟩ : ∃ As cs, s = .slice As S.length cs ∧ S.length ≤ cs ∧ True := by
    obtain ⟨As, cs, h1, h2, _⟩ := HS.out
    exact ⟨As, cs, h1, h2, trivial⟩
  rw [hS] at HS
  rw [hS]
  obtain ⟨i0, hi, hz0, hz1, hz2⟩ := info_parts Try.infoB
  have hmk := fun W => run_make_n (P := Try.prog) 77 4 i0 _ Try.underlying77 hi hz0 .i64 .i64 N N (Nat.le_refl _) (by rw [hz2]; omega) (by omega) W
  rw [hz1] at hmk
  clear hi hz0 hz1 hz2
  have hO1 := own_madeB wb hN8
  have h01 := below1 wb (Obj.cells (madeCells #[Value.bool false] N) 4)
  obtain ⟨w1, hw1⟩ : ∃ w1, w1 = wb.alloc (Obj.cells (madeCells #[Value.bool false] N) 4) := ⟨_, rfl⟩
  obtain ⟨ob, hob⟩ : ∃ ob, ob = wb.heap.size := ⟨_, rfl⟩
  have hS1 : NxS wb w1 ob N (List.replicate N false) := by
    rw [hw1, hob]
    exact ⟨h01, hO1⟩
  have HT := hide hS1
  clear hS1 hO1 h01 hwbs
  go_enter Try.func85, Try.ntmps85
  go_upto_region 1 with fail
  rw [← hwb]
  clear hwb
  go_upto_region 2 with fail
  rw [← hw1, ← hob]
  clear hw1 hob hmk c0 c1
  go_wp2
  go_loopg [12] (N) (fun gg iv wr => ∃ (n : Nat) (O : List Bool), n + gg = N ∧ iv = .int .i64 n ∧ Hid (NxS wb wr ob N O) ∧ Hid (Nx R S (n : Int) O))
  case atStart => exact ⟨0, _, by omega, rfl, HT, hide (nx_start R S N)⟩
  case round =>
    clear HT
    obtain ⟨n, O, hn, rfl, HT, HX⟩ := hrel
    have c0 := (HB.out.up HT.out.bw).cell 0
    have c1 := (HB.out.up HT.out.bw).cell 1
    by_cases hlt : n < N
    · obtain ⟨fa, rfl⟩ : ∃ fa, gk = fa + 1 := ⟨gk - 1, by omega⟩
      obtain ⟨wo, hwo⟩ : ∃ wo, wo = wr := ⟨_, rfl⟩
      subst hwo
      have HVo := hide (HV.out.up HT.out.bw)
      have HUo := hide (HU.out.up HT.out.bw)
      have HND : Hid (Nd g (n : Int)) := hide ⟨by omega, by rw [HN.out]; omega⟩
      rw [HN.out] at HVo
      go_wp2_with fail
      refine (l22Hops_any _ u g k y (n : Int) ch _ HVo.out HUo.out hc HK.out HND.out).mono ?_
      rintro e w2 ⟨v2, rfl, hO2, hb2⟩
      rw [← HRR.out] at hO2
      obtain ⟨L, hL⟩ : ∃ L, L = R (n : Int) := ⟨_, rfl⟩
      have hLl : L.length ≤ 8 := by rw [hL]; exact HRL.out _
      rw [← hL] at hO2
      have HL := hide hL
      obtain ⟨Ah, ch', rfl, _, _⟩ := hO2.lit
      have HT2 := hide (HT.out.below hb2)
      have HO2 := hide (hO2.low HT.out.bw.size)
      have HXI := hide HX.out.into
      obtain ⟨sb, hsb⟩ := get_some (l := S) (i := n) (by omega)
      have HSB := hide hsb
      clear hL hO2 hb2 HT HVo HUo c0 c1 HX hsb
      go_wp2
      go_loopg [14] (L.length) (fun gg iv wr => ∃ (i : Nat) (O : List Bool), i + gg = L.length ∧ iv = .int .i64 i ∧ Hid (NxS wb wr ob N O) ∧ Hid (Own ic 3 1 wr wb.heap.size (.slice Ah L.length ch') L) ∧ Hid (NxI R S (n : Int) i O))
      case atStart => exact ⟨0, O, by omega, rfl, HT2, HO2, HXI⟩
      case round =>
        clear HT2 HO2 HXI
        obtain ⟨i, O, hi, rfl, HT, HO, HX⟩ := hrel
        by_cases hil : i < L.length
        · obtain ⟨As', cs', he, _, hrow⟩ := HS.out
          obtain rfl : As = As' := by injection he
          clear he
          obtain ⟨bs, os, rfl, hbs, hcells⟩ := hrow (by omega)
          have xs := boolAt (hcells.keep (w' := wr) fun p hp => HT.out.bw.cell (by omega)) HSB.out
          clear hrow hcells
          cases sb with
          | true =>
            obtain ⟨m, hm⟩ := get_some hil
            have hmr : m ∈ R (n : Int) := by rw [← HL.out]; exact List.mem_of_getElem? hm
            obtain ⟨hm0, hm1⟩ := HRI.out _ _ hmr
            obtain ⟨mn, rfl⟩ := Int.eq_ofNat_of_zero_le hm0
            obtain ⟨oh, ch2, he, _, _⟩ := HO.out.form (by omega)
            obtain ⟨rfl, rfl⟩ : Ah = some ⟨oh, 0, none⟩ ∧ ch' = ch2 := by
              injection he with h1 h2 h3
              exact ⟨h1, h3⟩
            have xm := own_int HO.out hm
            have hmN : mn < N := by omega
            obtain ⟨⟨u0, q0⟩, z0⟩ := HT.out.slot hmN
            have HX2 := hide (HX.out.step (bAt_nat.2 HSB.out) (by rw [← HL.out]; exact hm) (by rw [HT.out.len]; exact hmN))
            have HT2 := hide (HT.out.set hmN true)
            have HO2 := hide (HT.out.ints (k := mn) HO.out (.bool true))
            clear he hm hmr hm0 hm1 HX HT HO
            go_wp2
            go_roundg (gk - 1)
            case measure => omega
            case rel => exact ⟨i + 1, _, by omega, by go_num, HT2, HO2, HX2⟩
          | false =>
            have HX2 := hide (HX.out.stop (by omega) fun h => absurd (bAt_nat.1 h) (by rw [HSB.out]; simp))
            clear HX
            go_wp2
            go_roundg fa
            case measure => omega
            case rel => exact ⟨n + 1, O, by omega, by go_num, HT, HX2⟩
        · have HX2 := hide (HX.out.stop (by omega) fun h => by rw [← HL.out]; omega)
          clear HX
          go_wp2
          go_roundg fa
          case measure => omega
          case rel => exact ⟨n + 1, O, by omega, by go_num, HT, HX2⟩
    · obtain rfl : n = N := by omega
      have hbf := hbw.trans (HT.out.bw.mono hbw.size)
      go_wp2
      go_ret
      exact ⟨_, rfl, ⟨O, HT.out.o.low hbw.size, HT.out.len, HX.out⟩, hbf⟩

theorem any_yes {B : List Bool} {x : Nat} (h : tb (∃ z : Int, z < (x : Int) ∧ bAt B z) = true) : tb (∃ z : Int, z < ((x + 1 : Nat) : Int) ∧ bAt B z) = true := by
  obtain ⟨z, h1, h2⟩ := tb_spec h
  exact tb_yes ⟨z, by omega, h2⟩
theorem any_no {B : List Bool} {x : Nat} {b : Bool} (h : tb (∃ z : Int, z < (x : Int) ∧ bAt B z) = false) (hb : B[x]? = some b) : tb (∃ z : Int, z < ((x + 1 : Nat) : Int) ∧ bAt B z) = b := by
  rw [← bAt_get hb]
  apply tb_iff
  constructor
  · rintro ⟨z, h1, h2⟩
    by_cases hz : z = (x : Int)
    · rw [← hz]; exact h2
    · have : tb (∃ z : Int, z < (x : Int) ∧ bAt B z) = true := tb_yes ⟨z, by omega, h2⟩
      rw [h] at this
      cases this
  · intro h1
    exact ⟨(x : Int), by omega, h1⟩
theorem any_all {R : Int → List Int} {B : List Bool} {N : Nat} {a : Int} (hB : B.length = N) (hF : ∀ x, bAt B x ↔ Fwd R N a x) : tb (∃ z : Int, z < (N : Int) ∧ bAt B z) = tb (Stp R N a) := by
  apply tb_iff
  rw [← fwd_all]
  constructor
  · rintro ⟨z, _, h⟩
    exact ⟨z, (hF z).1 h⟩
  · rintro ⟨z, h⟩
    have h1 := (hF z).2 h
    have := bAt_lt h1
    exact ⟨z, by omega, h1⟩
set_option maxRecDepth 100000 in
set_option maxHeartbeats 1600000 in
theorem specLoop_any (v u : Value) (g : Gr) (k y : Int) (ch : List Int) (w : World) (hv : GrR w w.heap.size v g) (hm : g.ls.length ≤ 1048576) (hu : SlR ic 1 w w.heap.size u ch) (hc : ch.length ≤ 1048576) :
    Calls Try.prog 41 #[v, .int .i64 k, .int .i64 y, u] w
      fun e w' => ∃ v', e = .returned v' ∧ Own ic 3 1 w' w.heap.size v' (loopX g k y ch) ∧ Below w.heap.size w w' := by
  have hvv := hv
  obtain ⟨A, cap, rfl, hfc, hfr⟩ := hv.form
  clear hfc hfr
  obtain ⟨wb, hwb⟩ : ∃ wb, wb = w.alloc (Obj.cells #[.int .i64 g.n, .slice A g.ls.length cap] 25) := ⟨_, rfl⟩
  have hbw : Below w.heap.size w wb := by rw [hwb]; exact below1 _ _
  have hwbs : wb.heap.size = w.heap.size + 1 := by rw [hwb]; simp
  have HB : Hid (Blk wb w.heap.size 25 #[.int .i64 g.n, .slice A g.ls.length cap]) := hide (by rw [hwb]; exact Blk.new _ _ _)
  have HV := hide (hvv.up hbw)
  have HU := hide (hu.up hbw)
  have c0 := HB.out.cell 0
  have c1 := HB.out.cell 1
  clear hvv hv hu
  obtain ⟨RX, hR⟩ : ∃ RX, RX = loopX g k y ch := ⟨_, rfl⟩
  have HR := hide hR
  rw [← hR]
  have h01 := below1 wb (Obj.cells #[] 3)
  have hE0 := ownE (enc := ic) (s := 1) wb 3 (Nat.le_refl _)
  obtain ⟨w1, hw1⟩ : ∃ w1, w1 = wb.alloc (Obj.cells #[] 3) := ⟨_, rfl⟩
  obtain ⟨E, hEE⟩ : ∃ E, E = wb.heap.size := ⟨_, rfl⟩
  rw [← hw1] at h01 hE0
  have HE : Hid (Own ic 3 1 w1 wb.heap.size (.slice (some ⟨E, 0, none⟩) 0 0) []) := hide (by rw [hEE]; exact hE0)
  have HKE : Hid ((Ok g 0 k ∧ Nd g y) ↔ Ok g y k) := hide ⟨fun h => ⟨h.1.1, h.1.2.1, h.2⟩, fun h => ⟨⟨h.1, h.2.1, ⟨by omega, by have := h.1.n; omega⟩⟩, h.2.2⟩⟩
  clear hR hE0 hwbs c0 c1
  by_cases hK' : ¬ Ok g y k
  · have HRE : Hid (RX = []) := hide (by rw [HR.out, loopX, okL_no hK'])
    have HNO := hide hK'
    have HV1 := hide (HV.out.up h01)
    have HB1 := hide (HB.out.up h01)
    clear hK'
    go_enter Try.func41, Try.ntmps41
    go_upto_region 1 with fail
    rw [← hwb]
    clear hwb
    go_upto_region 3 with fail
    rw [← hw1, ← hEE]
    clear hw1 hEE
    go_loopg [9, 10] (0) (fun gg rv iv wr => rv = .slice (some ⟨E, 0, none⟩) 0 0 ∧ iv = .int .i64 0 ∧ wr = w1)
    case atStart => exact ⟨rfl, rfl, rfl⟩
    case round =>
      obtain ⟨rfl, rfl, rfl⟩ := hrel
      have c0 := HB1.out.cell 0
      have c1 := HB1.out.cell 1
      by_cases hn : 0 < g.n
      · go_wp2_with fail
        refine (l21Ok_any _ g 0 k y _ HV1.out hm).mono ?_
        rintro e w2 ⟨rfl, hb2⟩
        rw [tb_no fun h => HNO.out (HKE.out.1 h)]
        have HE2 := hide (HE.out.below hb2)
        have hbf := hbw.trans ((h01.trans (hb2.mono h01.size)).mono hbw.size)
        clear c0 c1 hb2
        go_wp2
        go_ret
        exact ⟨_, rfl, by rw [HRE.out]; exact HE2.out.low hbw.size, hbf⟩
      · have hbf := hbw.trans (h01.mono hbw.size)
        go_wp2
        go_ret
        exact ⟨_, rfl, by rw [HRE.out]; exact HE.out.low hbw.size, hbf⟩
  have HK : Hid (Ok g y k) := hide (Classical.not_not.1 hK')
  have hn1 := HK.out.1.n.1
  have hn2 := HK.out.1.n.2
  obtain ⟨N, hN⟩ : ∃ N : Nat, g.n = N := ⟨g.n.toNat, by omega⟩
  have HN := hide hN
  obtain ⟨R, hRR⟩ : ∃ R, R = mixR g k y ch := ⟨_, rfl⟩
  have HRR := hide hRR
  have HRI : Hid (∀ x m : Int, m ∈ R x → 0 ≤ m ∧ m < (N : Int)) := hide (by
    intro x m h
    rw [hRR] at h
    have := mixR_in HK.out.1 x m h
    omega)
  have HRL : Hid (∀ x : Int, (R x).length ≤ 8) := hide (by
    intro x
    rw [hRR]
    exact mixR_len HK.out.1 _ _ _ _)
  have hN1 : 1 ≤ N := by omega
  have hN8 : N ≤ 8 := by omega
  have hNt : g.n.toNat = N := by omega
  have HRE : Hid (RX = selTo (Stp R N) N) := hide (by rw [HR.out, loopX, okL_yes HK.out, ← hRR, hNt])
  have HNT := hide hNt
  rw [hN] at HB HV
  clear hK' hn1 hn2 hN hRR hNt
  obtain ⟨i0, hi, hz0, hz1, hz2⟩ := info_parts Try.infoB
  have hmk := fun W => run_make_n (P := Try.prog) 77 4 i0 _ Try.underlying77 hi hz0 .i64 .i64 N N (Nat.le_refl _) (by rw [hz2]; omega) (by omega) W
  rw [hz1] at hmk
  clear hi hz0 hz1 hz2
  go_enter Try.func41, Try.ntmps41
  go_upto_region 1 with fail
  rw [← hwb]
  clear hwb
  go_upto_region 3 with fail
  rw [← hw1, ← hEE]
  clear hw1 hEE
  go_loopg [9, 10] (N) (fun gg rv iv wr => ∃ (n : Nat) (A5 : Option Addr) (c5 : Nat), n + gg = N ∧ rv = .slice A5 (selTo (Stp R N) n).length c5 ∧ iv = .int .i64 n ∧ Below wb.heap.size wb wr ∧ Hid (Own ic 3 1 wr wb.heap.size (.slice A5 (selTo (Stp R N) n).length c5) (selTo (Stp R N) n)))
  case atStart => exact ⟨0, _, _, by omega, rfl, rfl, h01, HE⟩
  case round =>
    clear HE h01
    obtain ⟨n, A5, c5, hn, rfl, rfl, hbe, HO⟩ := hrel
    obtain ⟨L, hL⟩ : ∃ L, L = selTo (Stp R N) n := ⟨_, rfl⟩
    have HL := hide hL
    have hLl : L.length ≤ 8 := by rw [hL]; have := selTo_len (Stp R N) n; omega
    rw [← hL] at HO
    rw [← hL]
    clear hL
    have c0 := (HB.out.up hbe).cell 0
    have c1 := (HB.out.up hbe).cell 1
    by_cases hlt : n < N
    · obtain ⟨fa, rfl⟩ : ∃ fa, gk = fa + 1 := ⟨gk - 1, by omega⟩
      go_wp2_with fail
      refine (l21Ok_any _ g 0 k y _ ((by have h := HV.out; rw [← HN.out] at h ⊢; exact h.up hbe)) hm).mono ?_
      rintro e w2 ⟨rfl, hb2⟩
      rw [tb_yes (HKE.out.2 HK.out)]
      have hbe2 := hbe.trans (hb2.mono hbe.size)
      have HO2 := hide (HO.out.below hb2)
      clear HO hb2 hbe c0 c1
      have c0 := (HB.out.up hbe2).cell 0
      have h23 := below1 w2 (Obj.cells (madeCells #[Value.bool false] N) 4)
      have hO3 := own_madeB w2 hN8
      obtain ⟨w3, hw3⟩ : ∃ w3, w3 = w2.alloc (Obj.cells (madeCells #[Value.bool false] N) 4) := ⟨_, rfl⟩
      obtain ⟨ob, hob⟩ : ∃ ob, ob = w2.heap.size := ⟨_, rfl⟩
      have hS3 : NxS w2 w3 ob N (List.replicate N false) := by
        rw [hw3, hob]
        exact ⟨h23, hO3⟩
      obtain ⟨⟨u0, q0⟩, z0⟩ := hS3.slot hlt
      have HT := hide (hS3.set hlt true)
      have HF := hide (fwd_start (R := R) hlt)
      clear hS3 hO3 h23
      go_upto_region 6 with fail
      rw [← hw3, ← hob]
      clear hw3 hob c0
      go_upto_region 7 with fail
      obtain ⟨w4, hw4⟩ : ∃ w4, w4 = w3.setCell ⟨ob, n, none⟩ (.bool true) := ⟨_, rfl⟩
      rw [← hw4] at HT
      rw [← hw4]
      clear hw4 q0 z0
      go_wp2
      go_loopg [11, 12] (N) (fun gg rv iv wr => ∃ (i : Nat) (A3 : Option Addr) (c3 : Nat) (B : List Bool), i + gg = N ∧ rv = .slice A3 N c3 ∧ iv = .int .i64 i ∧ B.length = N ∧ Below w2.heap.size w2 wr ∧ Hid (Own blc 4 1 wr w2.heap.size (.slice A3 N c3) B) ∧ Hid (∀ x, bAt B x ↔ Fwd R i (n : Int) x))
      case atStart => exact ⟨0, _, _, _, by omega, rfl, rfl, HT.out.len, HT.out.bw, hide HT.out.o, HF⟩
      case round =>
        clear HT HF
        obtain ⟨i, A3, c3, B, hi, rfl, rfl, hBl, hbi, HB3, HF⟩ := hrel
        have hbei := hbe2.trans (hbi.mono hbe2.size)
        have c0 := (HB.out.up hbei).cell 0
        have c1 := (HB.out.up hbei).cell 1
        by_cases hil : i < N
        · have HVi := hide (HV.out.up hbei)
          have HVi2 : Hid (GrR wr wr.heap.size (.agg #[.int .i64 (N : Int), .slice A g.ls.length cap]) g) := HVi
          have hslr := HB3.out.slr blc_len
          go_wp2_with fail
          refine (l22Next_any _ u _ g k y ch B _ HVi.out (HU.out.up hbei) hc HK.out hslr (by rw [hBl, HNT.out])).mono ?_
          rintro e w5 ⟨v5, rfl, ⟨O, hO5, hOl, hNx⟩, hb5⟩
          rw [HNT.out, ← HRR.out] at hNx
          rw [HNT.out] at hOl
          obtain ⟨A6, c6, rfl, _, _⟩ := hO5.lit
          rw [hOl] at hO5
          rw [hOl]
          have HF2 := hide (hNx.fwd hBl HF.out)
          have HO5 := hide (hO5.low hbi.size)
          have hbi5 := hbi.trans (hb5.mono hbi.size)
          clear hslr HVi HVi2 c0 c1 hO5 hNx HF hb5 hbei hbi HB3
          go_wp2
          go_roundg (gk - 1)
          case measure => omega
          case rel => exact ⟨i + 1, _, _, O, by omega, rfl, by go_num, hOl, hbi5, HO5, HF2⟩
        · obtain rfl : i = N := by omega
          obtain ⟨w6, hw6⟩ : ∃ w6, w6 = wr := ⟨_, rfl⟩
          subst hw6
          obtain ⟨o3, c3', he, _, _⟩ := HB3.out.form (by omega)
          obtain ⟨rfl, rfl⟩ : A3 = some ⟨o3, 0, none⟩ ∧ c3 = c3' := by
            injection he with h1 h2 h3
            exact ⟨h1, h3⟩
          have HAL := hide (any_all hBl HF.out)
          have hw6 := Below.refl w6.heap.size w6
          clear he HF
          go_wp2
          go_loopg [13, 14] (i) (fun gg lv xv wr => ∃ (x : Nat) (lb : Bool), x + gg = i ∧ lv = .bool lb ∧ xv = .int .i64 x ∧ Below w6.heap.size w6 wr ∧ Hid (tb (∃ z : Int, z < (x : Int) ∧ bAt B z) = lb))
          case atStart => exact ⟨0, false, by omega, rfl, rfl, hw6, hide (tb_no fun ⟨z, h1, h2⟩ => by have := bAt_lt h2; omega)⟩
          case round =>
            clear c0 c1
            obtain ⟨x, lb, hx, rfl, rfl, hbx, HX⟩ := hrel
            have hbex := hbei.trans (hbx.mono hbei.size)
            have c0 := (HB.out.up hbex).cell 0
            have c1 := (HB.out.up hbex).cell 1
            by_cases hxl : x < i
            · cases lb with
              | true =>
                have HX2 := hide (any_yes HX.out)
                go_wp2
                go_roundg (gk - 1)
                case measure => omega
                case rel => exact ⟨x + 1, true, by omega, rfl, by go_num, hbx, HX2⟩
              | false =>
                obtain ⟨b, hb⟩ := get_some (l := B) (i := x) (by omega)
                have HX2 := hide (any_no HX.out hb)
                have xb := own_bool (HB3.out.below hbx) hb
                clear hb
                go_wp2
                go_roundg (gk - 1)
                case measure => omega
                case rel => exact ⟨x + 1, b, by omega, rfl, by go_num, hbx, HX2⟩
            · obtain rfl : x = i := by omega
              have hbfx := hbi.trans (hbx.mono hbi.size)
              have HOx := hide (HO2.out.below hbfx)
              cases lb with
              | true =>
                have HS : Hid (Stp R x (n : Int)) := hide (tb_spec (by rw [← HAL.out]; exact HX.out))
                have HNx : Hid (selTo (Stp R x) (n + 1) = L ++ [(n : Int)]) := hide (by rw [selTo_yes HS.out, HL.out])
                clear HX HAL HS
                go_upto_region 4 with (at_builtin; refine wpList_appN (by rfl) infI (.tmp 60) (.tmp 62) (by rfl) _ _ (by rfl) (by rfl) wb L [(n : Int)] (selTo (Stp R x) (n + 1)) (selTo (Stp R x) (n + 1)).length HNx.out rfl (HOx.out.below (below1 _ _)) (hbex.trans ((below1 _ _).mono hbex.size)) (slr_lit _ _) (by rw [HNx.out]; simp; omega) ?_; intro Ay capy w9 hO9 hg9 hb9)
                have HO9 := hide hO9
                clear hO9 hg9 HOx
                go_wp2
                go_roundg fa
                case measure => omega
                case rel => exact ⟨n + 1, _, _, by omega, rfl, by go_num, hb9, HO9⟩
              | false =>
                have HS : Hid (¬ Stp R x (n : Int)) := hide fun h => by
                  have h1 := HAL.out
                  rw [HX.out, tb_yes h] at h1
                  cases h1
                have HNx : Hid (selTo (Stp R x) (n + 1) = L) := hide (by rw [selTo_no HS.out, HL.out])
                clear HX HAL HS
                go_wp2
                go_roundg fa
                case measure => omega
                case rel => exact ⟨n + 1, _, c5, by omega, by rw [HNx.out], by go_num, hbex, by rw [HNx.out]; exact HOx⟩
    · obtain rfl : n = N := by omega
      have HRL : Hid (RX = L) := hide (by rw [HRE.out, HL.out])
      go_wp2
      go_ret
      exact ⟨_, rfl, by rw [HRL.out]; exact HO.out.low hbw.size, hbw.trans (hbe.mono hbw.size)⟩

/-- All of the first i hops are in O, and there is a hop. -/
def AllI (O : List Bool) (L : List Int) (i : Nat) : Prop := L ≠ [] ∧ ∀ m, m ∈ L.take i → bAt O m
theorem allI_start {O : List Bool} {L : List Int} (h : 0 < L.length) : tb (AllI O L 0) = true := tb_yes ⟨fun h0 => by rw [h0] at h; simp at h, fun m hm => by simp at hm⟩
theorem allI_nil {O : List Bool} {L : List Int} {i : Nat} (h : L.length = 0) : tb (AllI O L i) = false := tb_no fun h1 => h1.1 (List.eq_nil_of_length_eq_zero h)
theorem allI_no {O : List Bool} {L : List Int} {i : Nat} (h : tb (AllI O L i) = false) : tb (AllI O L (i + 1)) = false := tb_no fun h1 => by
  rw [tb_yes ⟨h1.1, fun m hm => h1.2 m (List.take_subset_take_left _ (by omega) hm)⟩] at h
  cases h
theorem allI_yes {O : List Bool} {L : List Int} {i m : Nat} {b : Bool} (h : tb (AllI O L i) = true) (hm : L[i]? = some (m : Int)) (hb : O[m]? = some b) : tb (AllI O L (i + 1)) = b := by
  rw [← bAt_get hb]
  apply tb_iff
  obtain ⟨h1, h2⟩ := tb_spec h
  unfold AllI
  rw [List.take_add_one, hm]
  simp only [Option.toList_some, List.mem_append, List.mem_singleton]
  constructor
  · rintro ⟨_, h3⟩
    exact h3 _ (.inr rfl)
  · intro h3
    refine ⟨h1, fun z hz => ?_⟩
    rcases hz with hz | hz
    · exact h2 z hz
    · rw [hz]; exact h3
theorem allI_all {O : List Bool} {L : List Int} {i : Nat} (h : L.length ≤ i) : AllI O L i ↔ (L ≠ [] ∧ ∀ m, m ∈ L → bAt O m) := by
  unfold AllI
  rw [List.take_of_length_le h]
set_option maxRecDepth 100000 in
set_option maxHeartbeats 1600000 in
theorem specArrives_any (v u : Value) (g : Gr) (k y : Int) (ch : List Int) (w : World) (hv : GrR w w.heap.size v g) (hm : g.ls.length ≤ 1048576) (hu : SlR ic 1 w w.heap.size u ch) (hc : ch.length ≤ 1048576) :
    Calls Try.prog 40 #[v, .int .i64 k, .int .i64 y, u] w
      fun e w' => ∃ v', e = .returned v' ∧ Own ic 3 1 w' w.heap.size v' (arrX g k y ch) ∧ Below w.heap.size w w' := by
  have hvv := hv
  obtain ⟨A, cap, rfl, hfc, hfr⟩ := hv.form
  clear hfc hfr
  obtain ⟨wb, hwb⟩ : ∃ wb, wb = w.alloc (Obj.cells #[.int .i64 g.n, .slice A g.ls.length cap] 25) := ⟨_, rfl⟩
  have hbw : Below w.heap.size w wb := by rw [hwb]; exact below1 _ _
  have hwbs : wb.heap.size = w.heap.size + 1 := by rw [hwb]; simp
  have HB : Hid (Blk wb w.heap.size 25 #[.int .i64 g.n, .slice A g.ls.length cap]) := hide (by rw [hwb]; exact Blk.new _ _ _)
  have HV := hide (hvv.up hbw)
  have HU := hide (hu.up hbw)
  have c0 := HB.out.cell 0
  have c1 := HB.out.cell 1
  clear hvv hv hu
  obtain ⟨RX, hR⟩ : ∃ RX, RX = arrX g k y ch := ⟨_, rfl⟩
  have HR := hide hR
  rw [← hR]
  have h01 := below1 wb (Obj.cells #[] 3)
  have hE0 := ownE (enc := ic) (s := 1) wb 3 (Nat.le_refl _)
  obtain ⟨w1, hw1⟩ : ∃ w1, w1 = wb.alloc (Obj.cells #[] 3) := ⟨_, rfl⟩
  obtain ⟨E, hEE⟩ : ∃ E, E = wb.heap.size := ⟨_, rfl⟩
  rw [← hw1] at h01 hE0
  have HE : Hid (Own ic 3 1 w1 wb.heap.size (.slice (some ⟨E, 0, none⟩) 0 0) []) := hide (by rw [hEE]; exact hE0)
  have HKE : Hid ((Ok g 0 k ∧ Nd g y) ↔ Ok g y k) := hide ⟨fun h => ⟨h.1.1, h.1.2.1, h.2⟩, fun h => ⟨⟨h.1, h.2.1, ⟨by omega, by have := h.1.n; omega⟩⟩, h.2.2⟩⟩
  have HV1 := hide (HV.out.up h01)
  clear hR hE0 hwbs c0 c1
  go_enter Try.func40, Try.ntmps40
  go_upto_region 1 with fail
  rw [← hwb]
  clear hwb
  go_upto_region 2 with fail
  rw [← hw1, ← hEE]
  clear hw1 hEE
  have c0 := (HB.out.up h01).cell 0
  have c1 := (HB.out.up h01).cell 1
  go_wp2_with fail
  refine (l21Ok_any _ g 0 k y _ HV1.out hm).mono ?_
  rintro e w2 ⟨rfl, hb2⟩
  have hb02 := h01.trans (hb2.mono h01.size)
  have HE2 := hide (HE.out.below hb2)
  clear c0 c1 hb2 h01 HE HV1
  by_cases hK' : ¬ Ok g y k
  · rw [tb_no fun h => hK' (HKE.out.1 h)]
    have HRE : Hid (RX = []) := hide (by rw [HR.out, arrX, okL_no hK'])
    clear hK'
    go_wp2
    go_ret
    exact ⟨_, rfl, by rw [HRE.out]; exact HE2.out.low hbw.size, hbw.trans (hb02.mono hbw.size)⟩
  have HK : Hid (Ok g y k) := hide (Classical.not_not.1 hK')
  rw [tb_yes (HKE.out.2 HK.out)]
  have hn1 := HK.out.1.n.1
  have hn2 := HK.out.1.n.2
  obtain ⟨N, hN⟩ : ∃ N : Nat, g.n = N := ⟨g.n.toNat, by omega⟩
  have HN := hide hN
  obtain ⟨R, hRR⟩ : ∃ R, R = mixR g k y ch := ⟨_, rfl⟩
  have HRR := hide hRR
  have HRI : Hid (∀ x m : Int, m ∈ R x → 0 ≤ m ∧ m < (N : Int)) := hide (by
    intro x m h
    rw [hRR] at h
    have := mixR_in HK.out.1 x m h
    omega)
  have HRL : Hid (∀ x : Int, (R x).length ≤ 8) := hide (by
    intro x
    rw [hRR]
    exact mixR_len HK.out.1 _ _ _ _)
  have hN1 : 1 ≤ N := by omega
  have hN8 : N ≤ 8 := by omega
  have hNt : g.n.toNat = N := by omega
  have HRE : Hid (RX = selTo (Arr R y) N) := hide (by rw [HR.out, arrX, okL_yes HK.out, ← hRR, hNt])
  rw [hN] at HB
  obtain ⟨ny, hny⟩ := Int.eq_ofNat_of_zero_le HK.out.2.2.1
  have hyN : ny < N := by have := HK.out.2.2.2; omega
  have HNY := hide hny
  rw [hny] at HRE
  clear hK' hn1 hn2 hN hRR hNt
  obtain ⟨i0, hi, hz0, hz1, hz2⟩ := info_parts Try.infoB
  have hmk := fun W => run_make_n (P := Try.prog) 77 4 i0 _ Try.underlying77 hi hz0 .i64 .i64 N N (Nat.le_refl _) (by rw [hz2]; omega) (by omega) W
  rw [hz1] at hmk
  clear hi hz0 hz1 hz2
  have c0 := (HB.out.up hb02).cell 0
  have h23 := below1 w2 (Obj.cells (madeCells #[Value.bool false] N) 4)
  have hO3 := own_madeB w2 hN8
  obtain ⟨w3, hw3⟩ : ∃ w3, w3 = w2.alloc (Obj.cells (madeCells #[Value.bool false] N) 4) := ⟨_, rfl⟩
  obtain ⟨ob, hob⟩ : ∃ ob, ob = w2.heap.size := ⟨_, rfl⟩
  have hS3 : NxS w2 w3 ob N (List.replicate N false) := by
    rw [hw3, hob]
    exact ⟨h23, hO3⟩
  obtain ⟨⟨u0, q0⟩, z0⟩ := hS3.slot hyN
  have HT := hide (hS3.set hyN true)
  have HI := hide (imA_start1 R hyN)
  have HY : Hid (bAt ((List.replicate N false).set ny true) (ny : Int)) := hide (by rw [bAt_set (by simpa using hyN)]; exact .inl ⟨rfl, rfl⟩)
  subst hny
  clear hS3 hO3 h23
  go_upto_region 5 with fail
  rw [← hw3, ← hob]
  clear hw3 hob c0 hmk
  go_upto_region 6 with fail
  obtain ⟨w4, hw4⟩ : ∃ w4, w4 = w3.setCell ⟨ob, ny, none⟩ (.bool true) := ⟨_, rfl⟩
  rw [← hw4] at HT
  rw [← hw4]
  clear hw4 q0 z0
  go_wp2
  go_loopg [11] (N) (fun gg iv wr => ∃ (r : Nat) (O : List Bool), r + gg = N ∧ iv = .int .i64 r ∧ Hid (NxS w2 wr ob N O) ∧ Hid (ImA R (ny : Int) N r 0 O) ∧ Hid (bAt O (ny : Int)))
  case atStart => exact ⟨0, _, by omega, rfl, HT, HI, HY⟩
  case round =>
    clear HT HI HY
    obtain ⟨r, O, hr, rfl, HT, HI, HY⟩ := hrel
    have hbr := hb02.trans (HT.out.bw.mono hb02.size)
    have c0 := (HB.out.up hbr).cell 0
    have c1 := (HB.out.up hbr).cell 1
    by_cases hrl : r < N
    · obtain ⟨fb, rfl⟩ : ∃ fb, gk = fb + 1 := ⟨gk - 1, by omega⟩
      go_wp2
      go_loopg [12] (N) (fun gg iv wr => ∃ (n : Nat) (O : List Bool), n + gg = N ∧ iv = .int .i64 n ∧ Hid (NxS w2 wr ob N O) ∧ Hid (ImA R (ny : Int) N r n O) ∧ Hid (bAt O (ny : Int)))
      case atStart => exact ⟨0, O, by omega, rfl, HT, HI, HY⟩
      case round =>
        clear HT HI HY c0 c1 hbr
        obtain ⟨n, O, hn, rfl, HT, HI, HY⟩ := hrel
        have hbr := hb02.trans (HT.out.bw.mono hb02.size)
        have c0 := (HB.out.up hbr).cell 0
        have c1 := (HB.out.up hbr).cell 1
        by_cases hlt : n < N
        · obtain ⟨fa, rfl⟩ : ∃ fa, gk = fa + 1 := ⟨gk - 1, by omega⟩
          obtain ⟨wo, hwo⟩ : ∃ wo, wo = wr := ⟨_, rfl⟩
          subst hwo
          have HND : Hid (Nd g (n : Int)) := hide ⟨by omega, by rw [HN.out]; omega⟩
          have HVo := hide (HV.out.up hbr)
          rw [HN.out] at HVo
          go_wp2_with fail
          refine (l22Hops_any _ u g k (ny : Int) (n : Int) ch _ HVo.out (HU.out.up hbr) hc HK.out HND.out).mono ?_
          rintro e w5 ⟨v5, rfl, hO5, hb5⟩
          rw [← HRR.out] at hO5
          obtain ⟨L, hL⟩ : ∃ L, L = R (n : Int) := ⟨_, rfl⟩
          have hLl : L.length ≤ 8 := by rw [hL]; exact HRL.out _
          rw [← hL] at hO5
          have HL := hide hL
          obtain ⟨Ah, ch', rfl, _, _⟩ := hO5.lit
          have HT5 := hide (HT.out.below hb5)
          have HO5 := hide hO5
          clear hL hO5 hb5 HT HVo c0 c1 hbr
          obtain ⟨l0, hl0⟩ : ∃ l0, tb (AllI O L 0) = l0 := ⟨_, rfl⟩
          have hl1 : decide (0 < L.length) = l0 := by
            by_cases h : 0 < L.length
            · rw [← hl0, allI_start h]; exact decide_eq_true h
            · rw [← hl0, allI_nil (by omega)]; exact decide_eq_false h
          have HL0 := hide hl0
          clear hl0
          go_wp2
          go_loopg [14, 15] (L.length) (fun gg av iv wr => ∃ (i : Nat) (ab : Bool), i + gg = L.length ∧ av = .bool ab ∧ iv = .int .i64 i ∧ Below w5.heap.size w5 wr ∧ Hid (tb (AllI O L i) = ab))
          case atStart => exact ⟨0, l0, by omega, by first | rfl | rw [hl1], rfl, Below.refl _ _, HL0⟩
          case round =>
            clear HL0 hl1
            obtain ⟨i, ab, hi, rfl, rfl, hbi, HAB⟩ := hrel
            have HT := hide (HT5.out.below hbi)
            by_cases hil : i < L.length
            · cases ab with
              | false =>
                have HAB2 := hide (allI_no HAB.out)
                go_wp2
                go_roundg (gk - 1)
                case measure => omega
                case rel => exact ⟨i + 1, false, by omega, rfl, by go_num, hbi, HAB2⟩
              | true =>
                obtain ⟨m, hm⟩ := get_some hil
                have hmr : m ∈ R (n : Int) := by rw [← HL.out]; exact List.mem_of_getElem? hm
                obtain ⟨hm0, hm1⟩ := HRI.out _ _ hmr
                obtain ⟨mn, rfl⟩ := Int.eq_ofNat_of_zero_le hm0
                obtain ⟨oh, ch2, he, _, _⟩ := HO5.out.form (by omega)
                obtain ⟨rfl, rfl⟩ : Ah = some ⟨oh, 0, none⟩ ∧ ch' = ch2 := by
                  injection he with h1 h2 h3
                  exact ⟨h1, h3⟩
                have xm := own_int (HO5.out.below hbi) hm
                have hmN : mn < N := by omega
                obtain ⟨b, hb⟩ := get_some (l := O) (i := mn) (by rw [HT.out.len]; exact hmN)
                have xb := own_bool HT.out.o hb
                have HAB2 := hide (allI_yes HAB.out hm hb)
                clear he hm hmr hm0 hm1 hb HT
                go_wp2
                go_roundg (gk - 1)
                case measure => omega
                case rel => exact ⟨i + 1, b, by omega, rfl, by go_num, hbi, HAB2⟩
            · have HFB : Hid (ab = true ↔ (R (n : Int) ≠ [] ∧ ∀ m, m ∈ R (n : Int) → bAt O m)) := hide (by
                rw [← HAB.out, ← HL.out, ← allI_all (i := i) (by omega)]
                exact ⟨tb_spec, tb_yes⟩)
              obtain ⟨gb, hgb⟩ := get_some (l := O) (i := n) (by rw [HT.out.len]; exact hlt)
              have HGB := hide hgb
              clear hgb HT5
              cases gb with
              | true =>
                have HFIT : Hid (true = true ↔ Fit R (ny : Int) O (n : Int)) := hide ⟨fun _ => HI.out.sup _ (bAt_nat.2 HGB.out), fun _ => rfl⟩
                have HI2 := hide (HI.out.step HRI.out hlt (b := true) HFIT.out)
                have HY2 := hide (HI.out.grow hlt (b := true) HFIT.out.2 HY.out)
                have HT2 := hide (HT.out.set hlt true)
                have xg := own_bool HT.out.o HGB.out
                obtain ⟨⟨u0, q0⟩, z0⟩ := HT.out.slot hlt
                clear HI HY HT HFIT HAB
                go_wp2
                go_roundg fa
                case measure => omega
                case rel => exact ⟨n + 1, _, by omega, by go_num, HT2, HI2, HY2⟩
              | false =>
                have HFIT : Hid (ab = true ↔ Fit R (ny : Int) O (n : Int)) := hide ⟨fun h => .inr (HFB.out.1 h), fun h => h.elim (fun h => by
                  have h1 := HY.out
                  rw [← h] at h1
                  have h2 := bAt_nat.1 h1
                  rw [HGB.out] at h2
                  cases h2) HFB.out.2⟩
                clear HFB
                have HI2 := hide (HI.out.step HRI.out hlt (b := ab) HFIT.out)
                have HY2 := hide (HI.out.grow hlt (b := ab) HFIT.out.2 HY.out)
                have HT2 := hide (HT.out.set hlt ab)
                have xg := own_bool HT.out.o HGB.out
                obtain ⟨⟨u0, q0⟩, z0⟩ := HT.out.slot hlt
                clear HI HY HT HFIT HAB
                go_wp2
                go_roundg fa
                case measure => omega
                case rel => exact ⟨n + 1, _, by omega, by go_num, HT2, HI2, HY2⟩
        · obtain rfl : n = N := by omega
          have HI2 := hide HI.out.round
          clear HI
          go_wp2
          go_roundg fb
          case measure => omega
          case rel => exact ⟨r + 1, O, by omega, by go_num, HT, HI2, HY⟩
    · obtain rfl : r = N := by omega
      have HXS : Hid (RX = selTo (bAt O) r) := hide (by
        rw [HRE.out]
        exact selTo_congr fun x hx => (HI.out.done HRI.out (show (0 : Int) ≤ (x : Int) ∧ (x : Int) < (r : Int) by omega)).symm)
      have HO0 := hide (HE2.out.below HT.out.bw)
      have HOB := hide HT.out.o
      have hOl := HT.out.len
      clear HI HY HT c0 c1
      have c0 := (HB.out.up hbr).cell 0
      go_wp2
      clear c0
      go_loopg [9, 16] (r) (fun gg rv iv wr => ∃ (n : Nat) (A5 : Option Addr) (c5 : Nat), n + gg = r ∧ rv = .slice A5 (selTo (bAt O) n).length c5 ∧ iv = .int .i64 n ∧ Below wb.heap.size wb wr ∧ Hid (Own blc 4 1 wr w2.heap.size (.slice (some ⟨ob, 0, none⟩) r r) O) ∧ Hid (Own ic 3 1 wr wb.heap.size (.slice A5 (selTo (bAt O) n).length c5) (selTo (bAt O) n)))
      case atStart => exact ⟨0, _, _, by omega, rfl, rfl, hbr, HOB, HO0⟩
      case round =>
        clear HOB HO0 hbr
        obtain ⟨n, A5, c5, hn, rfl, rfl, hbe, HOB, HO⟩ := hrel
        obtain ⟨L, hL⟩ : ∃ L, L = selTo (bAt O) n := ⟨_, rfl⟩
        have HL := hide hL
        have hLl : L.length ≤ 8 := by rw [hL]; have := selTo_len (bAt O) n; omega
        rw [← hL] at HO
        rw [← hL]
        clear hL
        have c0 := (HB.out.up hbe).cell 0
        by_cases hlt : n < r
        · obtain ⟨b, hb⟩ := get_some (l := O) (i := n) (by omega)
          have xb := own_bool HOB.out hb
          cases b with
          | true =>
            have HNx : Hid (selTo (bAt O) (n + 1) = L ++ [(n : Int)]) := hide (by rw [selTo_yes (bAt_nat.2 hb), HL.out])
            clear hb
            go_upto_region 21 with (at_builtin; refine wpList_appN (by rfl) infI (.tmp 87) (.tmp 89) (by rfl) _ _ (by rfl) (by rfl) wb L [(n : Int)] (selTo (bAt O) (n + 1)) (selTo (bAt O) (n + 1)).length HNx.out rfl (HO.out.below (below1 _ _)) (hbe.trans ((below1 _ _).mono hbe.size)) (slr_lit _ _) (by rw [HNx.out]; simp; omega) ?_; intro Ay capy w9 hO9 hg9 hb9)
            have HO9 := hide hO9
            have HOB9 := hide (own_grown (HOB.out.below (below1 _ _)) hg9 (own_types HOB.out HO.out (by decide)))
            clear hO9 hg9 HO HOB c0 xb
            go_wp2
            go_roundg (gk - 1)
            case measure => omega
            case rel => exact ⟨n + 1, _, _, by omega, rfl, by go_num, hb9, HOB9, HO9⟩
          | false =>
            have HNx : Hid (selTo (bAt O) (n + 1) = L) := hide (by rw [selTo_no (fun h => by have := bAt_nat.1 h; rw [hb] at this; cases this), HL.out])
            clear hb
            go_wp2
            go_roundg (gk - 1)
            case measure => omega
            case rel => exact ⟨n + 1, _, c5, by omega, by rw [HNx.out], by go_num, hbe, HOB, by rw [HNx.out]; exact HO⟩
        · obtain rfl : n = r := by omega
          have HRL : Hid (RX = L) := hide (by rw [HXS.out, HL.out])
          go_wp2
          go_ret
          exact ⟨_, rfl, by rw [HRL.out]; exact HO.out.low hbw.size, hbw.trans (hbe.mono hbw.size)⟩
end Go.Proofs.Ytbhkjeicogjfbaa
