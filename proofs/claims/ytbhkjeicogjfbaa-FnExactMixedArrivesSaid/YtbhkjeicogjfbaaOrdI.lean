/- UpdateOrder of the program: the right order. Conditions: at most 1048576 links. -/
import Derived.Test.YtbhkjeicogjfbaaSelI
import Derived.Test.YtbhkjeicogjfbaaSortW
namespace Go.Proofs.Ytbhkjeicogjfbaa
open Go.RowKit

noncomputable def ordX (g : Gr) (k t : Int) : List Int := okL (Ok g t k) (ordOf g (lkOf g k) t)
theorem ordX_is {g : Gr} {k t : Int} {L : List Int} (h : Ok g t k) (hL : OrdL g (lkOf g k) t L) : ordX g k t = L := by
  rw [ordX, okL_yes h, ordOf_is hL]
theorem ordX_no {g : Gr} {k t : Int} (h : ¬ Ok g t k) : ordX g k t = [] := by rw [ordX, okL_no h]
/-- The use of a link towards f. -/
def UsT (g : Gr) (l : Lk) (f n : Int) : Prop := Us g l n f
theorem linkUsedT_k (v : Value) (g : Gr) (f n k : Int) (w : World) (hv : GrR w w.heap.size v g) (hg : GV g) (hf : Nd g f) (hn : Nd g n) (hk : Ix g k) :
    Calls Try.prog 59 #[v, .int .i64 n, .int .i64 f, .int .i64 k] w fun e w' => e = .returned (.bool (tb (UsT g (lkOf g k) f n))) ∧ Below w.heap.size w w' := linkUsed_k v g n f k w hv hg hn hf hk
set_option maxHeartbeats 800000 in
theorem cloOrd_any (b1 b2 b3 : Nat) (v : Value) (g : Gr) (f n k : Int) (w : World) (hC : Cap3 w b1 b2 b3 v g f k) (hg : GV g) (hf : Nd g f) (hn : Nd g n) (hk : Ix g k) :
    Calls Try.prog 58 #[.int .i64 n, .pointer (some ⟨b1, 0, none⟩), .pointer (some ⟨b2, 0, none⟩), .pointer (some ⟨b3, 0, none⟩)] w fun e w' => e = .returned (.bool (tb (UsT g (lkOf g k) f n))) ∧ Below w.heap.size w w' := by
  obtain ⟨⟨A, cap, rfl, h1⟩, h2, h3, h4⟩ := hC
  have c0 := h1.cell 0
  have c1 := h1.cell 1
  have c2 := h2.cell 0
  have c3 := h3.cell 0
  have hcon := linkUsedT_k _ g f n k w h4 hg hf hn hk
  clear h1 h2 h3 h4 hg hf hn hk
  go_enter Try.func58, Try.ntmps58
  go_wp2_with fail
  refine hcon.mono ?_
  rintro e w1 ⟨rfl, hb1⟩
  go_wp2
  go_ret
  exact ⟨rfl, hb1⟩
set_option maxRecDepth 100000 in
set_option maxHeartbeats 1600000 in
theorem byOrd_any (b1 b2 b3 : Nat) (v : Value) (g : Gr) (f k : Int) (w : World) (hC : Cap3 w b1 b2 b3 v g f k) (hg : GV g) (hf : Nd g f) (hk : Ix g k) :
    Calls Try.prog 57 #[v, .func (.func 58) #[] #[.pointer (some ⟨b1, 0, none⟩), .pointer (some ⟨b2, 0, none⟩), .pointer (some ⟨b3, 0, none⟩)]] w
      fun e w' => ∃ v', e = .returned v' ∧ Own ic 3 1 w' w.heap.size v' (selTo (UsT g (lkOf g k) f) g.n.toNat) ∧ Below w.heap.size w w' := by
  obtain ⟨hn1, hn2⟩ := hg.n
  have HCN := hide (fun (n : Int) (hn : Nd g n) W hW => cloOrd_any b1 b2 b3 v g f n k W hW hg hf hn hk)
  obtain ⟨P, hP⟩ : ∃ P, P = UsT g (lkOf g k) f := ⟨_, rfl⟩
  rw [← hP] at HCN
  rw [← hP]
  obtain ⟨A, cap, rfl, _⟩ := hC.val
  obtain ⟨wb, hwb⟩ : ∃ wb, wb = w.alloc (Obj.cells #[.int .i64 g.n, .slice A g.ls.length cap] 25) := ⟨_, rfl⟩
  have hbw : Below w.heap.size w wb := by rw [hwb]; exact below1 _ _
  have HB : Hid (Blk wb w.heap.size 25 #[.int .i64 g.n, .slice A g.ls.length cap]) := hide (by rw [hwb]; exact Blk.new _ _ _)
  have hwbs : wb.heap.size = w.heap.size + 1 := by rw [hwb]; simp
  have HC := hide (hC.up hbw)
  have c0 := HB.out.cell 0
  have c1 := HB.out.cell 1
  obtain ⟨R, hR⟩ : ∃ R, R = selTo P g.n.toNat := ⟨_, rfl⟩
  have HR := hide hR
  rw [← hR]
  clear hP hC hg hf hk hR
  go_enter Try.func57, Try.ntmps57
  go_upto_region 1 with fail
  rw [← hwb]
  clear hwb
  have HB1 := hide (HB.out.up (below1 wb (Obj.cells #[] 3)))
  clear c0 c1
  have c0 := HB1.out.cell 0
  go_wp2_with fail
  clear c0 HB1
  go_loopg [5, 10] (g.n.toNat) (fun gg rv iv wr => ∃ (j : Nat) (A5 : Option Addr) (c5 : Nat), j + gg = g.n.toNat ∧ rv = .slice A5 (selTo P j).length c5 ∧ iv = .int .i64 j ∧ Below wb.heap.size wb wr ∧ Hid (Own ic 3 1 wr wb.heap.size (.slice A5 (selTo P j).length c5) (selTo P j)))
  case atStart => exact ⟨0, _, _, by omega, rfl, rfl, below1 _ _, hide (by rw [← hwbs]; exact ownE wb _ (Nat.le_refl _))⟩
  case round =>
    obtain ⟨j, A5, c5, hj, rfl, rfl, hbe, HO⟩ := hrel
    have HC0 := hide (HC.out.up hbe)
    have hsz := hbe.size
    obtain ⟨L, hL⟩ : ∃ L, L = selTo P j := ⟨_, rfl⟩
    have HL := hide hL
    rw [← hL] at HO
    rw [← hL]
    clear hL
    by_cases hlt : (j : Int) < g.n
    · go_wp2_with fail
      refine (HCN.out (j : Int) ⟨by omega, hlt⟩ _ HC0.out).mono ?_
      rintro e w3 ⟨rfl, hb3⟩
      have HO3 := hide (HO.out.below hb3)
      have hbe3 := hbe.trans (hb3.mono hbe.size)
      clear HC0 HO hb3
      by_cases hQ : P (j : Int)
      · rw [tb_yes hQ]
        have HN : Hid (selTo P (j + 1) = L ++ [(j : Int)]) := hide (by rw [selTo_yes hQ, HL.out])
        have HNl : Hid (L.length + 1 ≤ 8) := hide (by
          have h1 := selTo_le P (j + 1) (by omega)
          rw [HN.out] at h1
          simpa using h1)
        clear hQ
        go_upto_region 7 with (at_builtin; refine wpList_appN (by rfl) infI (.tmp 16) (.tmp 18) (by rfl) _ _ (by rfl) (by rfl) wb L [(j : Int)] (selTo P (j + 1)) (selTo P (j + 1)).length HN.out rfl (HO3.out.below (below1 _ _)) (hbe3.trans ((below1 _ _).mono hbe3.size)) (slr_lit _ _) (by rw [HN.out]; have := HNl.out; simp; omega) ?_; intro Ay capy w4 hO4 hg4 hb4)
        have HO4 := hide hO4
        clear hO4 hg4 HO3
        go_wp2
        go_roundg (gk - 1)
        case measure => omega
        case rel => exact ⟨j + 1, _, _, by omega, rfl, by go_num, hb4, HO4⟩
      · rw [tb_no hQ]
        have HN : Hid (selTo P (j + 1) = L) := hide (by rw [selTo_no hQ, HL.out])
        clear hQ
        go_wp2
        go_roundg (gk - 1)
        case measure => omega
        case rel => exact ⟨j + 1, _, c5, by omega, by rw [HN.out], by go_num, hbe3, by rw [HN.out]; exact HO3⟩
    · have hjn : g.n.toNat = j := by omega
      have hR : R = L := by rw [HR.out, HL.out, hjn]
      have HF := hide (HO.out.low (base' := w.heap.size) (by omega))
      have hbf := hbw.trans (hbe.mono hbw.size)
      rw [← hR] at HF
      rw [← hR]
      clear hR hjn
      go_wp2
      go_ret
      exact ⟨_, rfl, HF.out, hbf⟩
theorem ord_sorted {g : Gr} {k t : Int} {M : List Int} (h : Ok g t k) (hM : M.Perm (selTo (UsT g (lkOf g k) t) g.n.toNat) ∧ M.Pairwise (Bd2 (D g t))) : OrdL g (lkOf g k) t M := ord_of_sort h.1 hM
set_option maxRecDepth 100000 in
set_option maxHeartbeats 1600000 in
theorem updateOrder_any (v : Value) (g : Gr) (k t : Int) (w : World) (hv : GrR w w.heap.size v g) (hm : g.ls.length ≤ 1048576) :
    Calls Try.prog 17 #[v, .int .i64 k, .int .i64 t] w fun e w' => ∃ v', e = .returned v' ∧ Own ic 3 1 w' w.heap.size v' (ordX g k t) ∧ Below w.heap.size w w' := by
  have hvv := hv
  obtain ⟨A, cap, rfl, hc, hr⟩ := hv.form
  obtain ⟨b, hb⟩ : ∃ b, b = w.heap.size := ⟨_, rfl⟩
  obtain ⟨wb, hwb⟩ : ∃ wb, wb = ((w.alloc (Obj.cells #[.int .i64 g.n, .slice A g.ls.length cap] 25)).alloc (Obj.cells #[.int .i64 k] 3)).alloc (Obj.cells #[.int .i64 t] 3) := ⟨_, rfl⟩
  have hbw : Below w.heap.size w wb := by rw [hwb]; exact below3 _ _ _ _
  have HC : Hid (Cap3 wb b (b + 2) (b + 1) (.agg #[.int .i64 g.n, .slice A g.ls.length cap]) g t k) := hide (by
    refine ⟨⟨A, cap, rfl, ?_⟩, ?_, ?_, hvv.up hbw⟩
    · rw [hwb, hb]; exact ((Blk.new _ _ _).alloc _).alloc _
    · rw [hwb, hb]
      have h := Blk.new ((w.alloc (Obj.cells #[.int .i64 g.n, .slice A g.ls.length cap] 25)).alloc (Obj.cells #[.int .i64 k] 3)) 3 #[.int .i64 t]
      simpa using h
    · rw [hwb, hb]
      have h := (Blk.new1 w (Obj.cells #[.int .i64 g.n, .slice A g.ls.length cap] 25) 3 #[.int .i64 k]).alloc (Obj.cells #[.int .i64 t] 3)
      exact h)
  have HBN := hide (fun (h : Ok g t k) W hW => byOrd_any b (b + 2) (b + 1) (.agg #[.int .i64 g.n, .slice A g.ls.length cap]) g t k W hW h.1 h.2.2 h.2.1)
  obtain ⟨R, hR⟩ : ∃ R, R = ordX g k t := ⟨_, rfl⟩
  have HR := hide hR
  rw [← hR]
  obtain ⟨⟨A', cap', he, HB1⟩, HB2, HB3, HV⟩ := HC.out
  cases he
  have c0 := HB1.cell 0
  have c1 := HB1.cell 1
  have c2 := HB2.cell 0
  have c3 := HB3.cell 0
  have hmf : ∀ (fn : Fn) (first cap : Array Value) (w : World), (Instr.makeFunc fn first cap).run Try.prog w = .ok (.func fn first cap) w := fun _ _ _ _ => rfl
  clear hR hvv hv hr HB1 HB2 HB3
  go_enter Try.func17, Try.ntmps17
  go_upto_region 1 with fail
  rw [← hwb, ← hb]
  clear hwb hb
  go_wp2_with fail
  refine (hasNode_any _ g _ _ HV hm).mono ?_
  rintro e w1 ⟨rfl, hb1⟩
  have HC1 := hide (HC.out.up hb1)
  have hb01 := hbw.trans (hb1.mono hbw.size)
  obtain ⟨⟨A', cap', he, HB1⟩, HB2, HB3, HV1⟩ := HC1.out
  cases he
  clear c0 c1 c2 c3 HC HV hb1 hbw
  have c0 := HB1.cell 0
  have c1 := HB1.cell 1
  have c2 := HB2.cell 0
  have c3 := HB3.cell 0
  clear HB1 HB2 HB3
  by_cases hA : GV g ∧ Nd g t
  · rw [tb_yes hA]
    have HA := hide hA
    clear hA
    go_wp2_with fail
    refine (hasLink_any _ g _ _ HV1 hm).mono ?_
    rintro e w2 ⟨rfl, hb2⟩
    have HC2 := hide (HC1.out.up hb2)
    have hb02 := hb01.trans (hb2.mono hb01.size)
    obtain ⟨⟨A', cap', he, HB1⟩, HB2, HB3, HV2⟩ := HC2.out
    cases he
    clear c0 c1 c2 c3 HC1 HV1 hb2 hb01
    have c0 := HB1.cell 0
    have c1 := HB1.cell 1
    have c2 := HB2.cell 0
    have c3 := HB3.cell 0
    clear HB1 HB2 HB3
    by_cases hA2 : GV g ∧ Ix g k
    · rw [tb_yes hA2]
      have HK : Hid (Ok g t k) := hide ⟨HA.out.1, hA2.2, HA.out.2⟩
      clear hA2
      go_wp2_with fail
      refine (distances_any _ g t _ HV2 HK.out.1 HK.out.2.2).mono ?_
      obtain ⟨N, hN⟩ : ∃ N, N = g.n.toNat := ⟨_, rfl⟩
      have HN := hide hN
      rw [← hN]
      rw [← hN] at HBN
      clear hN
      rintro e w3 ⟨o, rfl, hO3, hb3⟩
      have h34 := below1 w3 (Obj.cells #[.slice (some ⟨o, 0, none⟩) N N] 28)
      have hF4 : Far (w3.alloc (Obj.cells #[.slice (some ⟨o, 0, none⟩) N N] 28)) w3.heap.size o (distL g t) := ⟨N, N, _, Blk.new _ _ _, hO3.below h34⟩
      have hoF : o < w3.heap.size := (World.ownsRow.lt hO3 o rfl).2
      have hb03 := hb02.trans (hb3.mono hb02.size)
      have hb04 := hb03.trans (h34.mono hb03.size)
      have HC4 := hide ((HC2.out.up hb3).up h34)
      obtain ⟨F, hF⟩ : ∃ F, F = w3.heap.size := ⟨_, rfl⟩
      obtain ⟨w4, hw4⟩ : ∃ w4, w4 = w3.alloc (Obj.cells #[.slice (some ⟨o, 0, none⟩) N N] 28) := ⟨_, rfl⟩
      have hs4 : w4.heap.size = F + 1 := by rw [hw4, hF]; simp
      rw [← hw4] at hF4 HC4 hb04
      rw [← hF] at hF4 hoF
      have HF4 := hide hF4
      clear c0 c1 c2 c3 HC2 HV2 hb02 hb03 hb3 h34 hO3 hF4
      go_upto_region 4 with fail
      rw [← hw4, ← hF]
      clear hw4 hF
      obtain ⟨⟨A', cap', he, HB1⟩, HB2, HB3, HV4⟩ := HC4.out
      cases he
      have c0 := HB1.cell 0
      have c1 := HB1.cell 1
      clear HB1 HB2 HB3
      go_wp2_with fail
      refine (HBN.out HK.out _ HC4.out).mono ?_
      rintro e w5 ⟨v5, rfl, hO5, hb5⟩
      obtain ⟨L, hL⟩ : ∃ L, L = selTo (UsT g (lkOf g k) t) N := ⟨_, rfl⟩
      rw [← hL] at hO5
      have HL := hide hL
      clear hL
      obtain ⟨A5, k5, rfl, _, _⟩ := hO5.lit
      have HF5 := hide (HF4.out.up hb5)
      have hb05 := hb04.trans (hb5.mono hb04.size)
      have HO5 := hide hO5
      clear hO5 HC4 HF4 hb5 c0 c1 HV4 HBN
      have hn8 : N ≤ 8 := by have := HK.out.1.n; have := HN.out; omega
      go_wp2_with fail
      refine (sortFn_any _ F o _ L (distL g t) (D g t) _ HO5.out (by rw [HL.out]; exact selTo_le _ _ hn8) HF5.out (by rw [distL_len, ← HN.out]; exact hn8) (fun q hq => by
        have := (World.ownsRow.lt HO5.out q hq).1
        omega) (fun x hx => by
        rw [HL.out, selTo_mem] at hx
        obtain ⟨a, rfl⟩ := Int.eq_ofNat_of_zero_le hx.1.1
        have := HK.out.1.n
        have := HN.out
        exact ⟨a, rfl, D_at (by omega)⟩) (by rw [HL.out]; exact selTo_asc _ _)).mono ?_
      rintro e w6 ⟨rfl, M, hM, hSW⟩
      have HRM : Hid (R = M) := hide (by
        rw [HL.out, HN.out] at hM
        rw [HR.out, ordX_is HK.out (ord_sorted HK.out hM)])
      have HLM : Hid (M.length = L.length) := hide hM.1.length_eq
      have HSW := hide hSW
      clear hM hSW
      go_wp2
      go_ret
      refine ⟨_, rfl, ?_, ?_⟩
      · rw [HRM.out]
        exact HSW.out.ow.low hb04.size
      · exact hb05.grown HSW.out.g hb05.size fun q hq => Nat.le_trans hb04.size (World.ownsRow.lt HO5.out q hq).1
    · rw [tb_no hA2]
      have HK : Hid (¬ Ok g t k) := hide fun h => hA2 ⟨h.1, h.2.1⟩
      clear hA2
      go_wp2
      go_ret
      exact ⟨_, rfl, by rw [HR.out, ordX_no HK.out]; exact Own.nil _ _ _ _ _, hb02⟩
  · rw [tb_no hA]
    have HK : Hid (¬ Ok g t k) := hide fun h => hA ⟨h.1, h.2.2⟩
    clear hA
    go_wp2
    go_ret
    exact ⟨_, rfl, by rw [HR.out, ordX_no HK.out]; exact Own.nil _ _ _ _ _, hb01⟩
end Go.Proofs.Ytbhkjeicogjfbaa
