/- RepairSafe and RepairNeeded of the program: the selected nodes, in order; GraphReach, Distances. Conditions: at most 1048576 links. -/
import Derived.Test.YtbhkjeicogjfbaaSelS
namespace Go.Proofs.Ytbhkjeicogjfbaa
open Go.RowKit

/-- The boxes that a closure captures. -/
structure Cap3 (w : World) (b1 b2 b3 : Nat) (v : Value) (g : Gr) (f k : Int) : Prop where
  val : ∃ A cap, v = .agg #[.int .i64 g.n, .slice A g.ls.length cap] ∧ Blk w b1 25 #[.int .i64 g.n, .slice A g.ls.length cap]
  fr : Blk w b2 3 #[.int .i64 f]
  lk : Blk w b3 3 #[.int .i64 k]
  gr : GrR w w.heap.size v g
theorem Cap3.up {w w' : World} {b1 b2 b3 : Nat} {v : Value} {g : Gr} {f k : Int} (h : Cap3 w b1 b2 b3 v g f k) (hb : Below w.heap.size w w') : Cap3 w' b1 b2 b3 v g f k := by
  obtain ⟨⟨A, cap, hv, h1⟩, h2, h3, h4⟩ := h
  exact ⟨⟨A, cap, hv, h1.up hb⟩, h2.up hb, h3.up hb, h4.up hb⟩
set_option maxHeartbeats 800000 in
theorem cloSafe_any (b1 b2 b3 : Nat) (v : Value) (g : Gr) (f n k : Int) (w : World) (hC : Cap3 w b1 b2 b3 v g f k) (hg : GV g) (hf : Nd g f) (hn : Nd g n) (hk : Ix g k) :
    Calls Try.prog 86 #[.int .i64 n, .pointer (some ⟨b1, 0, none⟩), .pointer (some ⟨b2, 0, none⟩), .pointer (some ⟨b3, 0, none⟩)] w fun e w' => e = .returned (.bool (tb (Sf g (lkOf g k) f n))) ∧ Below w.heap.size w w' := by
  obtain ⟨⟨A, cap, rfl, h1⟩, h2, h3, h4⟩ := hC
  have c0 := h1.cell 0
  have c1 := h1.cell 1
  have c2 := h2.cell 0
  have c3 := h3.cell 0
  have hcon := isSafe_k _ g f n k w h4 hg hf hn hk
  clear h1 h2 h3 h4 hg hf hn hk
  go_enter Try.func86, Try.ntmps86
  go_wp2_with fail
  refine hcon.mono ?_
  rintro e w1 ⟨rfl, hb1⟩
  go_wp2
  go_ret
  exact ⟨rfl, hb1⟩
set_option maxRecDepth 100000 in
set_option maxHeartbeats 1600000 in
theorem bySafe_any (b1 b2 b3 : Nat) (v : Value) (g : Gr) (f k : Int) (w : World) (hC : Cap3 w b1 b2 b3 v g f k) (hg : GV g) (hf : Nd g f) (hk : Ix g k) :
    Calls Try.prog 57 #[v, .func (.func 86) #[] #[.pointer (some ⟨b1, 0, none⟩), .pointer (some ⟨b2, 0, none⟩), .pointer (some ⟨b3, 0, none⟩)]] w
      fun e w' => ∃ v', e = .returned v' ∧ Own ic 3 1 w' w.heap.size v' (selTo (Sf g (lkOf g k) f) g.n.toNat) ∧ Below w.heap.size w w' := by
  obtain ⟨hn1, hn2⟩ := hg.n
  have HCN := hide (fun (n : Int) (hn : Nd g n) W hW => cloSafe_any b1 b2 b3 v g f n k W hW hg hf hn hk)
  obtain ⟨P, hP⟩ : ∃ P, P = Sf g (lkOf g k) f := ⟨_, rfl⟩
  rw [← hP] at HCN
  rw [← hP]
  obtain ⟨A, cap, rfl, _⟩ := hC.val
  obtain ⟨wb, hwb⟩ : ∃ wb, wb = w.alloc (Obj.cells #[.int .i64 g.n, .slice A g.ls.length cap] 25) := ⟨_, rfl⟩
  have hbw : Below w.heap.size w wb := by rw [hwb]; exact below1 _ _
  have HB : Hid (Blk wb w.heap.size 25 #[.int .i64 g.n, .slice A g.ls.length cap]) := hide (by rw [hwb]; exact Blk.new _ _ _)
  have hwbs : wb.heap.size = w.heap.size + 1 := by rw [hwb]; simp
  have HC := hide (hC.up hbw)
  have c0 := HB.out.cell 0
  have c1 := HB.out.cell 1
  obtain ⟨R, hR⟩ : ∃ R, R = selTo P g.n.toNat := ⟨_, rfl⟩
  have HR := hide hR
  rw [← hR]
  clear hP hC hg hf hk hR
  go_enter Try.func57, Try.ntmps57
  go_upto_region 1 with fail
  rw [← hwb]
  clear hwb
  have HB1 := hide (HB.out.up (below1 wb (Obj.cells #[] 3)))
  clear c0 c1
  have c0 := HB1.out.cell 0
  go_wp2_with fail
  clear c0 HB1
  go_loopg [5, 10] (g.n.toNat) (fun gg rv iv wr => ∃ (j : Nat) (A5 : Option Addr) (c5 : Nat), j + gg = g.n.toNat ∧ rv = .slice A5 (selTo P j).length c5 ∧ iv = .int .i64 j ∧ Below wb.heap.size wb wr ∧ Hid (Own ic 3 1 wr wb.heap.size (.slice A5 (selTo P j).length c5) (selTo P j)))
  case atStart => exact ⟨0, _, _, by omega, rfl, rfl, below1 _ _, hide (by rw [← hwbs]; exact ownE wb _ (Nat.le_refl _))⟩
  case round =>
    obtain ⟨j, A5, c5, hj, rfl, rfl, hbe, HO⟩ := hrel
    have HC0 := hide (HC.out.up hbe)
    have hsz := hbe.size
    obtain ⟨L, hL⟩ : ∃ L, L = selTo P j := ⟨_, rfl⟩
    have HL := hide hL
    rw [← hL] at HO
    rw [← hL]
    clear hL
    by_cases hlt : (j : Int) < g.n
    · go_wp2_with fail
      refine (HCN.out (j : Int) ⟨by omega, hlt⟩ _ HC0.out).mono ?_
      rintro e w3 ⟨rfl, hb3⟩
      have HO3 := hide (HO.out.below hb3)
      have hbe3 := hbe.trans (hb3.mono hbe.size)
      clear HC0 HO hb3
      by_cases hQ : P (j : Int)
      · rw [tb_yes hQ]
        have HN : Hid (selTo P (j + 1) = L ++ [(j : Int)]) := hide (by rw [selTo_yes hQ, HL.out])
        have HNl : Hid (L.length + 1 ≤ 8) := hide (by
          have h1 := selTo_le P (j + 1) (by omega)
          rw [HN.out] at h1
          simpa using h1)
        clear hQ
        go_upto_region 7 with (at_builtin; refine wpList_appN (by rfl) infI (.tmp 16) (.tmp 18) (by rfl) _ _ (by rfl) (by rfl) wb L [(j : Int)] (selTo P (j + 1)) (selTo P (j + 1)).length HN.out rfl (HO3.out.below (below1 _ _)) (hbe3.trans ((below1 _ _).mono hbe3.size)) (slr_lit _ _) (by rw [HN.out]; have := HNl.out; simp; omega) ?_; intro Ay capy w4 hO4 hg4 hb4)
        have HO4 := hide hO4
        clear hO4 hg4 HO3
        go_wp2
        go_roundg (gk - 1)
        case measure => omega
        case rel => exact ⟨j + 1, _, _, by omega, rfl, by go_num, hb4, HO4⟩
      · rw [tb_no hQ]
        have HN : Hid (selTo P (j + 1) = L) := hide (by rw [selTo_no hQ, HL.out])
        clear hQ
        go_wp2
        go_roundg (gk - 1)
        case measure => omega
        case rel => exact ⟨j + 1, _, c5, by omega, by rw [HN.out], by go_num, hbe3, by rw [HN.out]; exact HO3⟩
    · have hjn : g.n.toNat = j := by omega
      have hR : R = L := by rw [HR.out, HL.out, hjn]
      have HF := hide (HO.out.low (base' := w.heap.size) (by omega))
      have hbf := hbw.trans (hbe.mono hbw.size)
      rw [← hR] at HF
      rw [← hR]
      clear hR hjn
      go_wp2
      go_ret
      exact ⟨_, rfl, HF.out, hbf⟩
set_option maxRecDepth 100000 in
set_option maxHeartbeats 1600000 in
theorem repairSafe_any (v : Value) (g : Gr) (f k : Int) (w : World) (hv : GrR w w.heap.size v g) (hm : g.ls.length ≤ 1048576) :
    Calls Try.prog 44 #[v, .int .i64 f, .int .i64 k] w fun e w' => ∃ v', e = .returned v' ∧ Own ic 3 1 w' w.heap.size v' (safeL g f k) ∧ Below w.heap.size w w' := by
  have hvv := hv
  obtain ⟨A, cap, rfl, hc, hr⟩ := hv.form
  obtain ⟨b, hb⟩ : ∃ b, b = w.heap.size := ⟨_, rfl⟩
  obtain ⟨wb, hwb⟩ : ∃ wb, wb = ((w.alloc (Obj.cells #[.int .i64 g.n, .slice A g.ls.length cap] 25)).alloc (Obj.cells #[.int .i64 f] 3)).alloc (Obj.cells #[.int .i64 k] 3) := ⟨_, rfl⟩
  have hbw : Below w.heap.size w wb := by rw [hwb]; exact below3 _ _ _ _
  have HC : Hid (Cap3 wb b (b + 1) (b + 2) (.agg #[.int .i64 g.n, .slice A g.ls.length cap]) g f k) := hide (by
    refine ⟨⟨A, cap, rfl, ?_⟩, ?_, ?_, hvv.up hbw⟩
    · rw [hwb, hb]; exact ((Blk.new _ _ _).alloc _).alloc _
    · rw [hwb, hb]
      have h := (Blk.new1 w (Obj.cells #[.int .i64 g.n, .slice A g.ls.length cap] 25) 3 #[.int .i64 f]).alloc (Obj.cells #[.int .i64 k] 3)
      exact h
    · rw [hwb, hb]
      have h := Blk.new ((w.alloc (Obj.cells #[.int .i64 g.n, .slice A g.ls.length cap] 25)).alloc (Obj.cells #[.int .i64 f] 3)) 3 #[.int .i64 k]
      simpa using h)
  have HBN := hide (fun (h : Ok g f k) W hW => bySafe_any b (b + 1) (b + 2) (.agg #[.int .i64 g.n, .slice A g.ls.length cap]) g f k W hW h.1 h.2.2 h.2.1)
  have HRU : Hid (safeL g f k = okL (Ok g f k) (selTo (Sf g (lkOf g k) f) g.n.toNat)) := hide rfl
  obtain ⟨R, hR⟩ : ∃ R, R = safeL g f k := ⟨_, rfl⟩
  rw [← hR] at HRU
  rw [← hR]
  obtain ⟨L, hL⟩ : ∃ L, L = selTo (Sf g (lkOf g k) f) g.n.toNat := ⟨_, rfl⟩
  rw [← hL] at HRU HBN
  obtain ⟨⟨A', cap', he, HB1⟩, HB2, HB3, HV⟩ := HC.out
  cases he
  have c0 := HB1.cell 0
  have c1 := HB1.cell 1
  have c2 := HB2.cell 0
  have c3 := HB3.cell 0
  have hmf : ∀ (fn : Fn) (first cap : Array Value) (w : World), (Instr.makeFunc fn first cap).run Try.prog w = .ok (.func fn first cap) w := fun _ _ _ _ => rfl
  clear hR hL hvv hv hr HB1 HB2 HB3
  go_enter Try.func44, Try.ntmps44
  go_upto_region 1 with fail
  rw [← hwb, ← hb]
  clear hwb hb
  go_wp2_with fail
  refine (hasNode_any _ g _ _ HV hm).mono ?_
  rintro e w1 ⟨rfl, hb1⟩
  have HC1 := hide (HC.out.up hb1)
  have hb01 := hbw.trans (hb1.mono hbw.size)
  obtain ⟨⟨A', cap', he, HB1⟩, HB2, HB3, HV1⟩ := HC1.out
  cases he
  clear c0 c1 c2 c3 HC HV hb1 hbw
  have c0 := HB1.cell 0
  have c1 := HB1.cell 1
  have c2 := HB2.cell 0
  have c3 := HB3.cell 0
  clear HB1 HB2 HB3
  by_cases hA : GV g ∧ Nd g f
  · rw [tb_yes hA]
    have HA := hide hA
    clear hA
    go_wp2_with fail
    refine (hasLink_any _ g _ _ HV1 hm).mono ?_
    rintro e w2 ⟨rfl, hb2⟩
    have HC2 := hide (HC1.out.up hb2)
    have hb02 := hb01.trans (hb2.mono hb01.size)
    obtain ⟨⟨A', cap', he, HB1⟩, HB2, HB3, HV2⟩ := HC2.out
    cases he
    clear c0 c1 c2 c3 HC1 HV1 hb2 hb01
    have c0 := HB1.cell 0
    have c1 := HB1.cell 1
    have c2 := HB2.cell 0
    have c3 := HB3.cell 0
    clear HB1 HB2 HB3
    by_cases hA2 : GV g ∧ Ix g k
    · rw [tb_yes hA2]
      have HK : Hid (Ok g f k) := hide ⟨HA.out.1, hA2.2, HA.out.2⟩
      clear hA2
      go_wp2_with fail
      refine (HBN.out HK.out _ HC2.out).mono ?_
      rintro e w3 ⟨v3, rfl, hO3, hb3⟩
      have HO3 := hide hO3
      clear hO3
      go_wp2
      go_ret
      exact ⟨_, rfl, by rw [HRU.out, okL_yes HK.out]; exact HO3.out.low hb02.size, hb02.trans (hb3.mono hb02.size)⟩
    · rw [tb_no hA2]
      have HK : Hid (¬ Ok g f k) := hide fun h => hA2 ⟨h.1, h.2.1⟩
      clear hA2
      go_wp2
      go_ret
      exact ⟨_, rfl, by rw [HRU.out, okL_no HK.out]; exact Own.nil _ _ _ _ _, hb02⟩
  · rw [tb_no hA]
    have HK : Hid (¬ Ok g f k) := hide fun h => hA ⟨h.1, h.2.2⟩
    clear hA
    go_wp2
    go_ret
    exact ⟨_, rfl, by rw [HRU.out, okL_no HK.out]; exact Own.nil _ _ _ _ _, hb01⟩
end Go.Proofs.Ytbhkjeicogjfbaa
