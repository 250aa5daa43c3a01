/- linkOf, other, neighbours, nextHops of the program. Conditions: the graph is valid, or at most 1048576 links. -/
import Derived.Test.YtbhkjeicogjfbaaSort1
namespace Go.Proofs.Ytbhkjeicogjfbaa
open Go.RowKit

theorem isL_tb (a b : Int) (l : Lk) : isL a b l = (decide (l.a = min a b) && decide (l.b = max a b)) := rfl
theorem cloLnk_any (l : Lk) (a b : Int) (b1 b2 : Nat) (w : World) (h1 : Blk w b1 3 #[.int .i64 a]) (h2 : Blk w b2 3 #[.int .i64 b]) :
    Calls Try.prog 110 #[.agg #[.int .i64 l.a, .int .i64 l.b, .int .i64 l.c], .pointer (some ⟨b1, 0, none⟩), .pointer (some ⟨b2, 0, none⟩)] w fun e w' => e = .returned (.bool (isL a b l)) ∧ Below w.heap.size w w' := by
  have hb := below1 w (Obj.cells #[.int .i64 l.a, .int .i64 l.b, .int .i64 l.c] 64)
  have c0 := (h1.up hb).cell 0
  have c1 := (h2.up hb).cell 0
  obtain ⟨la, lb, lc'⟩ := l
  simp only at c0 c1 hb ⊢
  obtain ⟨R, hR⟩ : ∃ R, R = isL a b ⟨la, lb, lc'⟩ := ⟨_, rfl⟩
  rw [← hR]
  rw [isL_tb] at hR
  simp only at hR
  rcases Int.lt_trichotomy a b with hab | hab | hab
  · skip
    by_cases p1 : la = a
    · have e1 : (la == a) = true := by rw [beq_iff_eq]; exact p1
      by_cases p2 : lb = b
      · have e2 : (lb == b) = true := by rw [beq_iff_eq]; exact p2
        have HR : Hid (R = true) := hide (by rw [hR, decide_eq_true (by omega), decide_eq_true (by omega)]; rfl)
        clear hR p1 p2 h1 h2
        go_enter Try.func110, Try.ntmps110
        go_wp2
        go_ret
        exact ⟨ret_bool HR.out.symm, hb⟩
      · have e2 : (lb == b) = false := by rw [beq_eq_false_iff_ne]; exact p2
        have HR : Hid (R = false) := hide (by rw [hR, decide_eq_false (p := lb = max a b) (by omega), Bool.and_false])
        clear hR p1 p2 h1 h2
        go_enter Try.func110, Try.ntmps110
        go_wp2
        go_ret
        exact ⟨ret_bool HR.out.symm, hb⟩
    · have e1 : (la == a) = false := by rw [beq_eq_false_iff_ne]; exact p1
      have HR : Hid (R = false) := hide (by rw [hR, decide_eq_false (p := la = min a b) (by omega), Bool.false_and])
      clear hR p1 h1 h2
      go_enter Try.func110, Try.ntmps110
      go_wp2
      go_ret
      exact ⟨ret_bool HR.out.symm, hb⟩
  · subst hab
    by_cases p1 : la = a
    · have e1 : (la == a) = true := by rw [beq_iff_eq]; exact p1
      by_cases p2 : lb = a
      · have e2 : (lb == a) = true := by rw [beq_iff_eq]; exact p2
        have HR : Hid (R = true) := hide (by rw [hR, decide_eq_true (by omega), decide_eq_true (by omega)]; rfl)
        clear hR p1 p2 h1 h2
        go_enter Try.func110, Try.ntmps110
        go_wp2
        go_ret
        exact ⟨ret_bool HR.out.symm, hb⟩
      · have e2 : (lb == a) = false := by rw [beq_eq_false_iff_ne]; exact p2
        have HR : Hid (R = false) := hide (by rw [hR, decide_eq_false (p := lb = max a a) (by omega), Bool.and_false])
        clear hR p1 p2 h1 h2
        go_enter Try.func110, Try.ntmps110
        go_wp2
        go_ret
        exact ⟨ret_bool HR.out.symm, hb⟩
    · have e1 : (la == a) = false := by rw [beq_eq_false_iff_ne]; exact p1
      have HR : Hid (R = false) := hide (by rw [hR, decide_eq_false (p := la = min a a) (by omega), Bool.false_and])
      clear hR p1 h1 h2
      go_enter Try.func110, Try.ntmps110
      go_wp2
      go_ret
      exact ⟨ret_bool HR.out.symm, hb⟩
  · skip
    by_cases p1 : la = b
    · have e1 : (la == b) = true := by rw [beq_iff_eq]; exact p1
      by_cases p2 : lb = a
      · have e2 : (lb == a) = true := by rw [beq_iff_eq]; exact p2
        have HR : Hid (R = true) := hide (by rw [hR, decide_eq_true (by omega), decide_eq_true (by omega)]; rfl)
        clear hR p1 p2 h1 h2
        go_enter Try.func110, Try.ntmps110
        go_wp2
        go_ret
        exact ⟨ret_bool HR.out.symm, hb⟩
      · have e2 : (lb == a) = false := by rw [beq_eq_false_iff_ne]; exact p2
        have HR : Hid (R = false) := hide (by rw [hR, decide_eq_false (p := lb = max a b) (by omega), Bool.and_false])
        clear hR p1 p2 h1 h2
        go_enter Try.func110, Try.ntmps110
        go_wp2
        go_ret
        exact ⟨ret_bool HR.out.symm, hb⟩
    · have e1 : (la == b) = false := by rw [beq_eq_false_iff_ne]; exact p1
      have HR : Hid (R = false) := hide (by rw [hR, decide_eq_false (p := la = min a b) (by omega), Bool.false_and])
      clear hR p1 h1 h2
      go_enter Try.func110, Try.ntmps110
      go_wp2
      go_ret
      exact ⟨ret_bool HR.out.symm, hb⟩
set_option maxHeartbeats 800000 in
theorem index_any (v : Value) (g : Gr) (a b : Int) (b1 b2 : Nat) (w : World) (hv : SlR lc 3 w w.heap.size v g.ls) (hn : g.ls.length ≤ 1048576) (h1 : Blk w b1 3 #[.int .i64 a]) (h2 : Blk w b2 3 #[.int .i64 b]) :
    Calls Try.prog 109 #[v, .func (.func 110) #[] #[.pointer (some ⟨b1, 0, none⟩), .pointer (some ⟨b2, 0, none⟩)]] w
      fun e w' => e = .returned (.int .i64 (lnk g a b)) ∧ Below w.heap.size w w' := by
  obtain ⟨A, cap, rfl, hc, hr⟩ := hv
  have H1 := hide h1
  have H2 := hide h2
  obtain ⟨R, hR⟩ : ∃ R, R = lnk g a b := ⟨_, rfl⟩
  rw [← hR]
  have HR := hide hR
  clear h1 h2 hR
  go_enter Try.func109, Try.ntmps109
  go_wp2
  go_loopg [8] (g.ls.length) (fun gg iv wr => ∃ k : Nat, k + gg = g.ls.length ∧ iv = .int .i64 k ∧ Below w.heap.size w wr ∧ Hid (∀ (i : Nat) (m : Lk), i < k → g.ls[i]? = some m → isL a b m = false))
  case atStart => exact ⟨0, by omega, rfl, Below.refl _ _, hide fun i m h => by omega⟩
  case round =>
    obtain ⟨k, hk, rfl, hbe, HV⟩ := hrel
    by_cases hlt : k < g.ls.length
    · obtain ⟨b0, off, rfl, hb, hcell⟩ := hr (by omega)
      obtain ⟨l, hck⟩ := get_some hlt
      obtain ⟨g1, g2, g3⟩ := linkAt (hcell.keep (w' := wr) fun p hp => hbe.cell (by omega)) hck
      have HC := hide hck
      clear hck
      go_wp2_with fail
      refine (cloLnk_any l a b b1 b2 wr (H1.out.up hbe) (H2.out.up hbe)).mono ?_
      rintro e w1 ⟨rfl, hb1⟩
      have hbe1 := hbe.trans (hb1.mono hbe.size)
      clear g1 g2 g3 hb1
      cases his : isL a b l with
      | true =>
        have HRK : Hid (R = (k : Int)) := hide (by rw [HR.out]; exact lnk_at HC.out his fun i m hi hm => HV.out i m hi hm)
        clear his
        go_wp2
        go_ret
        exact ⟨ret_i64 HRK.out.symm, hbe1⟩
      | false =>
        have HIS := hide his
        clear his
        go_wp2
        go_roundg (gk - 1)
        case measure => omega
        case rel =>
          refine ⟨k + 1, by omega, by go_num, hbe1, hide fun i m hi hm => ?_⟩
          rcases Nat.lt_succ_iff_lt_or_eq.1 hi with h | h
          · exact HV.out i m h hm
          · subst h; rw [HC.out] at hm; cases hm; exact HIS.out
    · have HRK : Hid (R = -1) := hide (by rw [HR.out]; exact lnk_none fun i m hm => HV.out i m (by have := get_lt hm; omega) hm)
      go_wp2
      go_ret
      exact ⟨ret_i64 HRK.out.symm, hbe⟩
set_option maxHeartbeats 800000 in
theorem linkOf_any (v : Value) (g : Gr) (a b : Int) (w : World) (hv : GrR w w.heap.size v g) (hn : g.ls.length ≤ 1048576) :
    Calls Try.prog 84 #[v, .int .i64 a, .int .i64 b] w fun e w' => e = .returned (.int .i64 (lnk g a b)) ∧ Below w.heap.size w w' := by
  obtain ⟨v2, rfl, h2⟩ := hv
  obtain ⟨B, hB⟩ : ∃ B, B = w.heap.size := ⟨_, rfl⟩
  obtain ⟨wb, hwb⟩ : ∃ wb, wb = ((w.alloc (Obj.cells #[.int .i64 g.n, v2] 25)).alloc (Obj.cells #[.int .i64 a] 3)).alloc (Obj.cells #[.int .i64 b] 3) := ⟨_, rfl⟩
  have hbw : Below w.heap.size w wb := by rw [hwb]; exact below3 _ _ _ _
  have HB : Hid (Blk wb B 25 #[.int .i64 g.n, v2]) := hide (by rw [hwb, hB]; exact ((Blk.new _ _ _).alloc _).alloc _)
  have H1 : Hid (Blk wb (B + 1) 3 #[.int .i64 a]) := hide (by rw [hwb, hB]; exact (Blk.new1 w _ _ _).alloc _)
  have H2 : Hid (Blk wb (B + 2) 3 #[.int .i64 b]) := hide (by
    rw [hwb, hB]
    have h := Blk.new ((w.alloc (Obj.cells #[.int .i64 g.n, v2] 25)).alloc (Obj.cells #[.int .i64 a] 3)) 3 #[.int .i64 b]
    simpa using h)
  have hcon := hide (index_any v2 g a b (B + 1) (B + 2) wb (h2.up hbw) hn H1.out H2.out)
  have hmf : ∀ (fn : Fn) (first cap : Array Value) (w : World), (Instr.makeFunc fn first cap).run Try.prog w = .ok (.func fn first cap) w := fun _ _ _ _ => rfl
  have c0 := HB.out.cell 0
  have c1 := HB.out.cell 1
  clear h2
  go_enter Try.func84, Try.ntmps84
  go_upto_region 1 with fail
  rw [← hwb, ← hB]
  clear hwb hB
  go_wp2_with fail
  refine hcon.out.mono ?_
  rintro e w1 ⟨rfl, hb1⟩
  go_wp2
  go_ret
  exact ⟨rfl, hbw.trans (hb1.mono hbw.size)⟩
theorem other_any (l : Lk) (n : Int) (w : World) :
    Calls Try.prog 117 #[.agg #[.int .i64 l.a, .int .i64 l.b, .int .i64 l.c], .int .i64 n] w fun e w' => e = .returned (.tuple #[.int .i64 ((othL l n).getD 0), .bool (othL l n).isSome]) ∧ Below w.heap.size w w' := by
  have hb := below1 w (Obj.cells #[.int .i64 l.a, .int .i64 l.b, .int .i64 l.c] 64)
  obtain ⟨la, lb, lc'⟩ := l
  simp only at hb ⊢
  by_cases p1 : n = la
  · have e1 : (n == la) = true := by rw [beq_iff_eq]; exact p1
    have e0 : othL ⟨la, lb, lc'⟩ n = some lb := if_pos p1
    rw [e0]
    clear p1 e0
    go_enter Try.func117, Try.ntmps117
    go_wp2
    go_ret2
    exact ⟨rfl, hb⟩
  · have e1 : (n == la) = false := by rw [beq_eq_false_iff_ne]; exact p1
    by_cases p2 : n = lb
    · have e2 : (n == lb) = true := by rw [beq_iff_eq]; exact p2
      have e0 : othL ⟨la, lb, lc'⟩ n = some la := (if_neg p1).trans (if_pos p2)
      rw [e0]
      clear p1 p2 e0
      go_enter Try.func117, Try.ntmps117
      go_wp2
      go_ret2
      exact ⟨rfl, hb⟩
    · have e2 : (n == lb) = false := by rw [beq_eq_false_iff_ne]; exact p2
      have e0 : othL ⟨la, lb, lc'⟩ n = none := (if_neg p1).trans (if_neg p2)
      rw [e0]
      clear p1 p2 e0
      go_enter Try.func117, Try.ntmps117
      go_wp2
      go_ret2
      exact ⟨rfl, hb⟩
set_option maxRecDepth 100000 in
set_option maxHeartbeats 1600000 in
theorem neighbours_any (v : Value) (g : Gr) (n : Int) (w : World) (hv : GrR w w.heap.size v g) (hg : GV g) :
    Calls Try.prog 108 #[v, .int .i64 n] w fun e w' => ∃ v', e = .returned v' ∧ Own ic 3 1 w' w.heap.size v' (nbL g n) ∧ Below w.heap.size w w' := by
  obtain ⟨A, cap, rfl, hc, hr⟩ := hv.form
  have hlen := hg.len
  have HG := hide hg
  obtain ⟨wb, hwb⟩ : ∃ wb, wb = w.alloc (Obj.cells #[.int .i64 g.n, .slice A g.ls.length cap] 25) := ⟨_, rfl⟩
  have hbw : Below w.heap.size w wb := by rw [hwb]; exact below1 _ _
  have hwbs : wb.heap.size = w.heap.size + 1 := by rw [hwb]; simp
  have HB : Hid (Blk wb w.heap.size 25 #[.int .i64 g.n, .slice A g.ls.length cap]) := hide (by rw [hwb]; exact Blk.new _ _ _)
  have h1b := below1 wb (Obj.cells #[] 3)
  have hE : Own ic 3 1 (wb.alloc (.cells #[] 3)) wb.heap.size (.slice (some ⟨w.heap.size + 1, 0, none⟩) 0 0) [] := by rw [← hwbs]; exact ownE wb _ (Nat.le_refl _)
  have HB0 := hide (HB.out.up h1b)
  obtain ⟨w0, hw0⟩ : ∃ w0, w0 = wb.alloc (.cells #[] 3) := ⟨_, rfl⟩
  rw [← hw0] at hE h1b HB0
  have HE := hide hE
  have c0 := HB0.out.cell 0
  have c1 := HB0.out.cell 1
  clear hE hv hg
  go_enter Try.func108, Try.ntmps108
  go_upto_region 2 with fail
  rw [← hwb, ← hw0]
  clear hwb hw0
  go_wp2
  clear c0 c1 HB0
  go_loopg [5, 14] (g.ls.length) (fun gg rv iv wr => ∃ (k : Nat) (A5 : Option Addr) (c5 : Nat), k + gg = g.ls.length ∧ rv = .slice A5 (nbTo g n k).length c5 ∧ iv = .int .i64 k ∧ Below wb.heap.size wb wr ∧ Hid (Own ic 3 1 wr wb.heap.size (.slice A5 (nbTo g n k).length c5) (nbTo g n k)))
  case atStart => exact ⟨0, _, _, by omega, rfl, rfl, h1b, HE⟩
  case round =>
    clear HE h1b
    obtain ⟨k, A5, c5, hk, rfl, rfl, hbe, HO⟩ := hrel
    obtain ⟨L, hL⟩ : ∃ L, L = nbTo g n k := ⟨_, rfl⟩
    have hLl : L.length ≤ 14 := by rw [hL]; have := nbTo_le g n k; omega
    rw [← hL] at HO
    rw [← hL]
    have HL := hide hL
    clear hL
    by_cases hlt : k < g.ls.length
    · obtain ⟨b0, off, rfl, hb, hcell⟩ := hr (by omega)
      obtain ⟨l, hck⟩ := get_some hlt
      have hbwe := hbw.trans (hbe.mono hbw.size)
      obtain ⟨g1, g2, g3⟩ := linkAt (hcell.keep (w' := wr) fun p hp => hbwe.cell (by omega)) hck
      have HC := hide hck
      clear hck
      have h1d := below1 wr (Obj.cells #[.int .i64 l.a, .int .i64 l.b, .int .i64 l.c] 64)
      have HK := hide (Blk.new wr 64 #[.int .i64 l.a, .int .i64 l.b, .int .i64 l.c])
      have HOd := hide (HO.out.below h1d)
      have hbd := hbe.trans (h1d.mono hbe.size)
      obtain ⟨wd, hwd⟩ : ∃ wd, wd = wr.alloc (Obj.cells #[.int .i64 l.a, .int .i64 l.b, .int .i64 l.c] 64) := ⟨_, rfl⟩
      rw [← hwd] at HK HOd hbd
      have k0 := HK.out.cell 0
      have k1 := HK.out.cell 1
      have k2 := HK.out.cell 2
      clear h1d HO
      go_upto_region 5 with fail
      rw [← hwd]
      clear hwd g1 g2 g3
      go_wp2_with fail
      refine (other_any l n wd).mono ?_
      rintro e w1 ⟨rfl, hb1⟩
      have HO1 := hide (HOd.out.below hb1)
      have hbe1 := hbd.trans (hb1.mono hbd.size)
      clear HK HOd hb1 k0 k1 k2
      cases ho : othL l n with
      | none =>
        have HN : Hid (nbTo g n (k + 1) = L) := hide (by rw [nbTo_none HC.out ho, HL.out])
        clear ho
        rw [show (none : Option Int).getD 0 = 0 from rfl, show (none : Option Int).isSome = false from rfl]
        go_wp2
        go_roundg (gk - 1)
        case measure => omega
        case rel => exact ⟨k + 1, _, c5, by omega, by rw [HN.out], by go_num, hbe1, by rw [HN.out]; exact HO1⟩
      | some m =>
        have HN : Hid (nbTo g n (k + 1) = L ++ [m]) := hide (by rw [nbTo_some HC.out ho, HL.out])
        clear ho
        rw [show (some m).getD 0 = m from rfl, show (some m).isSome = true from rfl]
        go_upto_region 8 with (at_builtin; refine wpList_appN (by rfl) infI (.tmp 25) (.tmp 27) (by rfl) _ _ (by rfl) (by rfl) wb L [m] (nbTo g n (k + 1)) (nbTo g n (k + 1)).length HN.out rfl (HO1.out.below (below1 _ _)) (hbe1.trans ((below1 _ _).mono hbe1.size)) (slr_lit _ _) (by rw [HN.out]; simp; omega) ?_; intro Ay capy w4 hO4 hg4 hb4)
        have HO4 := hide hO4
        clear hO4 hg4 HO1
        go_wp2
        go_roundg (gk - 1)
        case measure => omega
        case rel => exact ⟨k + 1, _, _, by omega, rfl, by go_num, hb4, HO4⟩
    · have hkk : k = g.ls.length := by omega
      have HLF : Hid (L = nbTo g n g.ls.length) := hide (by rw [HL.out, hkk])
      have h8 : L.length ≤ 8 := by
        rw [HLF.out]
        refine nodup_len (nbTo_nodup HG.out) fun x hx => ?_
        have h1 := (((nbTo_mem HG.out).1 hx).nd HG.out).2
        have := HG.out.n
        unfold Nd at h1
        omega
      clear hkk
      go_wp2_with fail
      refine (sort1_any _ _ L _ HO.out (by omega)).mono ?_
      rintro e w1 ⟨rfl, M, hM, hO1, hg1⟩
      have HM : Hid (M = nbL g n) := hide (nb_sorted HG.out (by rw [← HLF.out]; exact hM))
      have HLM : Hid (M.length = L.length) := hide hM.1.length_eq
      have HO1 := hide hO1
      have hbf := hbe.grown hg1 hbe.size fun q hq => (World.ownsRow.lt HO.out q hq).1
      clear hM hO1 hg1
      go_wp2
      go_ret
      exact ⟨_, rfl, by rw [← HM.out]; exact HO1.out.low hbw.size, hbw.trans (hbf.mono hbw.size)⟩
end Go.Proofs.Ytbhkjeicogjfbaa
