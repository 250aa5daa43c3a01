/- Safe nodes, of the program and of the reference: Sf. LinkUsed. Conditions: the graph is valid, the nodes are nodes of it, the link is a link of it. -/
import Derived.Test.YtbhkjeicogjfbaaUsedI
namespace Go.Proofs.Ytbhkjeicogjfbaa
open Go.RowKit

theorem not_tb (p : Prop) : (!tb p) = tb (¬ p) := by
  by_cases h : p
  · rw [tb_yes h, tb_no (fun k => k h)]; rfl
  · rw [tb_no h, tb_yes h]; rfl
set_option maxHeartbeats 800000 in
theorem isSafe_any (v : Value) (g : Gr) (f n : Int) (k : Nat) (l : Lk) (w : World) (hv : GrR w w.heap.size v g) (hg : GV g) (hf : Nd g f) (hn : Nd g n) (hl : g.ls[k]? = some l) :
    Calls Try.prog 87 #[v, .int .i64 f, .int .i64 (k:Nat), .int .i64 n] w fun e w' => e = .returned (.bool (tb (Sf g l f n))) ∧ Below w.heap.size w w' := by
  have hvv := hv
  obtain ⟨A, cap, rfl, hc, hr⟩ := hv.form
  obtain ⟨wb, hwb⟩ : ∃ wb, wb = w.alloc (Obj.cells #[.int .i64 g.n, .slice A g.ls.length cap] 25) := ⟨_, rfl⟩
  have hbw : Below w.heap.size w wb := by rw [hwb]; exact below1 _ _
  have HB : Hid (Blk wb w.heap.size 25 #[.int .i64 g.n, .slice A g.ls.length cap]) := hide (by rw [hwb]; exact Blk.new _ _ _)
  have hlen : g.ls.length ≤ 14 := hg.len
  obtain ⟨nn, rfl⟩ := Int.eq_ofNat_of_zero_le hn.1
  obtain ⟨p, hp⟩ : ∃ p, p = D g f nn := ⟨_, rfl⟩
  obtain ⟨U, hU⟩ : ∃ U, U = Us g l f nn := ⟨_, rfl⟩
  obtain ⟨V, hV⟩ : ∃ V, V = Sf g l f nn := ⟨_, rfl⟩
  have HS : Hid (V ↔ 0 ≤ p ∧ ¬ U) := hide (by rw [hV, hp, hU]; exact Iff.rfl)
  have H1 : Hid ((distL g f)[nn]? = some p) := hide (by rw [hp]; exact D_at hn.2)
  have HUC := fun W h => linkUsed_any (.agg #[.int .i64 g.n, .slice A g.ls.length cap]) g f (nn : Int) k l W h hg hf hn hl
  rw [← hU] at HUC
  have HUC := hide HUC
  rw [← hV]
  have HDI := hide (fun W h => distances_any (.agg #[.int .i64 g.n, .slice A g.ls.length cap]) g f W h hg hf)
  have HV := hide (hvv.up hbw)
  have hng := hn.2
  have hg1 := hg.n.1
  clear hp hU hV hvv hv hg hf hn hl hr
  go_enter Try.func87, Try.ntmps87
  go_wp2_with fail
  rw [← hwb]
  clear hwb
  refine (HDI.out _ HV.out).mono ?_
  rintro e w1 ⟨o1, rfl, hO1, hb1⟩
  have x1 := own_int hO1 H1.out
  have HB1 := hide (HB.out.up hb1)
  have HV1 := hide (HV.out.up hb1)
  have c0 := HB1.out.cell 0
  have c1 := HB1.out.cell 1
  have hb01 := hbw.trans (hb1.mono hbw.size)
  clear hO1 HB1 HB hb1
  by_cases h0 : 0 ≤ p
  · go_wp2_with fail
    refine (HUC.out _ HV1.out).mono ?_
    rintro e w2 ⟨rfl, hb2⟩
    go_wp2
    go_ret
    exact ⟨ret_bool (by rw [not_tb]; exact tb_iff ⟨fun h => HS.out.2 ⟨h0, h⟩, fun h => (HS.out.1 h).2⟩), hb01.trans (hb2.mono hb01.size)⟩
  · go_wp2
    go_ret
    exact ⟨ret_bool (tb_no fun h => by have := (HS.out.1 h).1; omega).symm, hb01⟩
/-- The link at place k. -/
def lkOf (g : Gr) (k : Int) : Lk := g.ls.getD k.toNat ⟨0, 0, 0⟩
theorem lk_at {g : Gr} {k : Int} (h : Ix g k) : g.ls[k.toNat]? = some (lkOf g k) := by
  obtain ⟨h0, h1⟩ := h
  unfold lkOf
  rw [List.getD_eq_getElem?_getD, List.getElem?_eq_getElem (by omega)]
  rfl
theorem l2Used_k (v : Value) (g : Gr) (f n k : Int) (w : World) (hv : GrR w w.heap.size v g) (hg : GV g) (hf : Nd g f) (hn : Nd g n) (hk : Ix g k) :
    Calls Try.prog 65 #[v, .int .i64 f, .int .i64 n, .int .i64 k] w fun e w' => e = .returned (.bool (tb (Us g (lkOf g k) f n))) ∧ Below w.heap.size w w' := by
  have h := l2Used_any v g f n k.toNat (lkOf g k) w hv hg hf hn (lk_at hk)
  rw [Int.toNat_of_nonneg hk.1] at h
  exact h
theorem linkUsed_k (v : Value) (g : Gr) (f n k : Int) (w : World) (hv : GrR w w.heap.size v g) (hg : GV g) (hf : Nd g f) (hn : Nd g n) (hk : Ix g k) :
    Calls Try.prog 59 #[v, .int .i64 f, .int .i64 n, .int .i64 k] w fun e w' => e = .returned (.bool (tb (Us g (lkOf g k) f n))) ∧ Below w.heap.size w w' := by
  have h := linkUsed_any v g f n k.toNat (lkOf g k) w hv hg hf hn (lk_at hk)
  rw [Int.toNat_of_nonneg hk.1] at h
  exact h
theorem isSafe_k (v : Value) (g : Gr) (f n k : Int) (w : World) (hv : GrR w w.heap.size v g) (hg : GV g) (hf : Nd g f) (hn : Nd g n) (hk : Ix g k) :
    Calls Try.prog 87 #[v, .int .i64 f, .int .i64 k, .int .i64 n] w fun e w' => e = .returned (.bool (tb (Sf g (lkOf g k) f n))) ∧ Below w.heap.size w w' := by
  have h := isSafe_any v g f n k.toNat (lkOf g k) w hv hg hf hn (lk_at hk)
  rw [Int.toNat_of_nonneg hk.1] at h
  exact h
set_option maxRecDepth 100000 in
set_option maxHeartbeats 800000 in
theorem linkUsedX_any (v : Value) (g : Gr) (f n k : Int) (w : World) (hv : GrR w w.heap.size v g) (hm : g.ls.length ≤ 1048576) :
    Calls Try.prog 38 #[v, .int .i64 f, .int .i64 n, .int .i64 k] w fun e w' => e = .returned (.bool (tb ((GV g ∧ Ix g k ∧ Nd g f ∧ Nd g n) ∧ Us g (lkOf g k) f n))) ∧ Below w.heap.size w w' := by
  have hvv := hv
  obtain ⟨A, cap, rfl, hc, hr⟩ := hv.form
  obtain ⟨wb, hwb⟩ : ∃ wb, wb = w.alloc (Obj.cells #[.int .i64 g.n, .slice A g.ls.length cap] 25) := ⟨_, rfl⟩
  have hbw : Below w.heap.size w wb := by rw [hwb]; exact below1 _ _
  have HB : Hid (Blk wb w.heap.size 25 #[.int .i64 g.n, .slice A g.ls.length cap]) := hide (by rw [hwb]; exact Blk.new _ _ _)
  have HV := hide (hvv.up hbw)
  have hL := fun (h : GV g ∧ Ix g k ∧ Nd g f ∧ Nd g n) W (hW : GrR W W.heap.size (.agg #[.int .i64 g.n, .slice A g.ls.length cap]) g) => linkUsed_k _ g f n k W hW h.1 h.2.2.1 h.2.2.2 h.2.1
  obtain ⟨U, hU⟩ : ∃ U, U = Us g (lkOf g k) f n := ⟨_, rfl⟩
  rw [← hU] at hL
  rw [← hU]
  have HL := hide hL
  clear hU hvv hv hr hL
  go_enter Try.func38, Try.ntmps38
  go_wp2_with fail
  rw [← hwb]
  clear hwb
  refine (hasNode_any _ g _ _ HV.out hm).mono ?_
  rintro e w1 ⟨rfl, hb1⟩
  have HB1 := hide (HB.out.up hb1)
  have HV1 := hide (HV.out.up hb1)
  have hb01 := hbw.trans (hb1.mono hbw.size)
  clear HB HV hb1 hbw
  have c0 := HB1.out.cell 0
  have c1 := HB1.out.cell 1
  by_cases hA : GV g ∧ Nd g f
  · rw [tb_yes hA]
    have HA := hide hA
    clear hA
    go_wp2_with fail
    refine (hasNode_any _ g _ _ HV1.out hm).mono ?_
    rintro e w2 ⟨rfl, hb2⟩
    have HB2 := hide (HB1.out.up hb2)
    have HV2 := hide (HV1.out.up hb2)
    have hb02 := hb01.trans (hb2.mono hb01.size)
    clear HB1 HV1 hb2 hb01 c0 c1
    have c0 := HB2.out.cell 0
    have c1 := HB2.out.cell 1
    by_cases hA2 : GV g ∧ Nd g n
    · rw [tb_yes hA2]
      have HA2 := hide hA2
      clear hA2
      go_wp2_with fail
      refine (hasLink_any _ g _ _ HV2.out hm).mono ?_
      rintro e w3 ⟨rfl, hb3⟩
      have HB3 := hide (HB2.out.up hb3)
      have HV3 := hide (HV2.out.up hb3)
      have hb03 := hb02.trans (hb3.mono hb02.size)
      clear HB2 HV2 hb3 hb02 c0 c1
      have c0 := HB3.out.cell 0
      have c1 := HB3.out.cell 1
      by_cases hA3 : GV g ∧ Ix g k
      · rw [tb_yes hA3]
        have HA3 := hide hA3
        clear hA3
        go_wp2_with fail
        have h4 := HL.out ⟨HA3.out.1, HA3.out.2, HA.out.2, HA2.out.2⟩ _ HV3.out
        refine h4.mono ?_
        rintro e w4 ⟨rfl, hb4⟩
        clear h4
        go_wp2
        go_ret
        exact ⟨ret_bool (tb_iff ⟨fun h => ⟨⟨HA3.out.1, HA3.out.2, HA.out.2, HA2.out.2⟩, h⟩, fun h => h.2⟩), hb03.trans (hb4.mono hb03.size)⟩
      · rw [tb_no hA3]
        have HA3 := hide hA3
        clear hA3
        go_wp2
        go_ret
        exact ⟨ret_bool (tb_no fun h => HA3.out ⟨h.1.1, h.1.2.1⟩).symm, hb03⟩
    · rw [tb_no hA2]
      have HA3 := hide hA2
      clear hA2
      go_wp2
      go_ret
      exact ⟨ret_bool (tb_no fun h => HA3.out ⟨h.1.1, h.1.2.2.2⟩).symm, hb02⟩
  · rw [tb_no hA]
    have HA3 := hide hA
    clear hA
    go_wp2
    go_ret
    exact ⟨ret_bool (tb_no fun h => HA3.out ⟨h.1.1, h.1.2.2.1⟩).symm, hb01⟩
end Go.Proofs.Ytbhkjeicogjfbaa
