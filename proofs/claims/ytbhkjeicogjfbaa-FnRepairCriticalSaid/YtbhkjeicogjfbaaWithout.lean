/- GraphWithout of the program: Wo. Conditions: at most 1048576 links. -/
import Derived.Test.YtbhkjeicogjfbaaSafeW
import Derived.Test.YtbhkjeicogjfbaaGraphE
namespace Go.Proofs.Ytbhkjeicogjfbaa
open Go.RowKit

theorem infL2 : SlInf Try.prog 23 64 lc 3 := by
  obtain ⟨i0, hi, hz0, hz1, hz2⟩ := info_parts Try.infoL
  exact ⟨Try.underlying23, ⟨i0, _, hi, hz0, hz1, by rw [hz2]; decide, rfl⟩, by decide, lc_len, lc_one⟩
theorem er_skip {α : Type} (l : List α) (k : Nat) : (l.take (k + 1)).eraseIdx k = (l.take k).eraseIdx k := by
  rw [List.take_add_one]
  by_cases h : k < l.length
  · rw [List.eraseIdx_append_of_length_le (by rw [List.length_take]; omega), List.length_take, Nat.min_eq_left (by omega), Nat.sub_self, List.getElem?_eq_getElem h]
    rw [List.eraseIdx_of_length_le (l := l.take k) (by rw [List.length_take]; omega)]
    simp
  · rw [List.getElem?_eq_none (by omega)]
    simp
theorem er_step {α : Type} {l : List α} {k i : Nat} {x : α} (hx : l[i]? = some x) (h : i ≠ k) : (l.take (i + 1)).eraseIdx k = (l.take i).eraseIdx k ++ [x] := by
  have hi := get_lt hx
  rw [List.take_add_one, hx]
  by_cases hk : k < i
  · rw [List.eraseIdx_append_of_lt_length (by rw [List.length_take]; omega)]
    rfl
  · rw [List.eraseIdx_append_of_length_le (by rw [List.length_take]; omega), List.eraseIdx_of_length_le (l := l.take i) (by rw [List.length_take]; omega), List.eraseIdx_of_length_le (by rw [List.length_take]; show 1 ≤ _; omega)]
    rfl
/-- The copy under way. -/
structure KG (w0 W : World) (R T : Nat) (n : Int) (v2 : Value) (L : List Lk) : Prop where
  bw : Below w0.heap.size w0 W
  br : Blk W R 25 #[.int .i64 0, .slice none 0 0]
  bt : Blk W T 25 #[.int .i64 n, v2]
  o : Own lc 64 3 W w0.heap.size v2 L
section
variable {w0 W W' : World} {R T : Nat} {n : Int} {v2 : Value} {L : List Lk}
theorem KG.below (h : KG w0 W R T n v2 L) (hb : Below W.heap.size W W') : KG w0 W' R T n v2 L :=
  ⟨h.bw.trans (hb.mono h.bw.size), h.br.up hb, h.bt.up hb, h.o.below hb⟩
theorem KG.app {v3 : Value} {L' : List Lk} (h : KG w0 W R T n v2 L) (hg : W.grownBy W' v2.ownBlock) (ho : Own lc 64 3 W' w0.heap.size v3 L') (hRT : R ≠ T) (hT : w0.heap.size ≤ T) :
    KG w0 (W'.setCell ⟨T, 1, none⟩ v3) R T n v3 L' ∧ Blk W' T 25 #[.int .i64 n, v2] := by
  have bt := h.bt.grown hg (Ne.symm (own_blk_ne h.o h.bt (by decide)))
  have br := h.br.grown hg (Ne.symm (own_blk_ne h.o h.br (by decide)))
  have n1 := own_blk_ne ho bt (by decide)
  exact ⟨⟨(h.bw.grown hg h.bw.size fun q hq => (World.ownsRow.lt h.o q hq).1).setCell hT _, br.far (by exact hRT) _, bt.put 1 _, own_far' ho n1 _⟩, bt⟩
end
set_option maxHeartbeats 400000 in
theorem cloWithout_any (b0 : Nat) (i k : Int) (l : Lk) (w : World) (hK : Blk w b0 3 #[.int .i64 k]) :
    Calls Try.prog 75 #[.int .i64 i, .agg #[.int .i64 l.a, .int .i64 l.b, .int .i64 l.c], .pointer (some ⟨b0, 0, none⟩)] w fun e w' => e = .returned (.bool (tb (i ≠ k))) ∧ Below w.heap.size w w' := by
  have hb := below1 w (Obj.cells #[.int .i64 l.a, .int .i64 l.b, .int .i64 l.c] 64)
  have c0 := (hK.up hb).cell 0
  have HE : Hid ((i != k) = tb (i ≠ k)) := hide (by
    by_cases h : i = k
    · rw [tb_no (fun hn => hn h)]; simp [h]
    · rw [tb_yes h]; simp [h])
  go_enter Try.func75, Try.ntmps75
  go_wp2
  go_ret
  exact ⟨ret_bool HE.out, hb⟩
set_option maxRecDepth 100000 in
set_option maxHeartbeats 1600000 in
theorem keep_any (b0 : Nat) (v : Value) (g : Gr) (k : Nat) (w : World) (hv : GrR w w.heap.size v g) (hm : g.ls.length ≤ 1048576) (hK : Blk w b0 3 #[.int .i64 (k : Int)]) :
    Calls Try.prog 74 #[v, .func (.func 75) #[] #[.pointer (some ⟨b0, 0, none⟩)]] w fun e w' => ∃ v', e = .returned v' ∧ OwnG w' w.heap.size v' (Wo g k) ∧ Below w.heap.size w w' := by
  obtain ⟨A, cap, rfl, hc, hr⟩ := hv.form
  clear hv
  obtain ⟨B, hB⟩ : ∃ B, B = w.heap.size := ⟨_, rfl⟩
  obtain ⟨wb, hwb⟩ : ∃ wb, wb = ((w.alloc (Obj.cells #[.int .i64 g.n, .slice A g.ls.length cap] 25)).alloc (Obj.cells #[.int .i64 0, .slice none 0 0] 25)).alloc (Obj.cells #[.int .i64 g.n, .slice none 0 0] 25) := ⟨_, rfl⟩
  have HK0 : Hid (KG w wb (B + 1) (B + 1 + 1) g.n (.slice none 0 0) ((g.ls.take 0).eraseIdx k)) := hide (by
    refine ⟨by rw [hwb]; exact below3 _ _ _ _, ?_, ?_, ?_⟩
    · rw [hwb, hB]; exact (Blk.new1 w _ _ _).alloc _
    · rw [hwb, hB]
      have h := Blk.new ((w.alloc (Obj.cells #[.int .i64 g.n, .slice A g.ls.length cap] 25)).alloc (Obj.cells #[.int .i64 0, .slice none 0 0] 25)) 25 #[.int .i64 g.n, .slice none 0 0]
      simpa using h
    · rw [List.take_zero]; exact Own.nil _ _ _ _ _)
  have HB0 : Hid (Blk wb B 25 #[.int .i64 g.n, .slice A g.ls.length cap]) := hide (by rw [hwb, hB]; exact ((Blk.new _ _ _).alloc _).alloc _)
  have c1 := HB0.out.cell 1
  have c0 := (Blk.new w 25 #[.int .i64 g.n, .slice A g.ls.length cap]).alloc (Obj.cells #[.int .i64 0, .slice none 0 0] 25)
  have c00 := c0.cell 0
  rw [← hB] at c00
  clear c0
  have hBw : w.heap.size ≤ B := by omega
  go_enter Try.func74, Try.ntmps74
  go_upto_region 2 with fail
  rw [← hwb, ← hB]
  clear hwb hB c00
  go_wp2
  clear c1
  go_loopg [14] (g.ls.length) (fun gg iv wr => ∃ (i : Nat) (v2 : Value), i + gg = g.ls.length ∧ iv = .int .i64 i ∧ Hid (KG w wr (B + 1) (B + 1 + 1) g.n v2 ((g.ls.take i).eraseIdx k)))
  case atStart => exact ⟨0, _, by omega, rfl, HK0⟩
  case round =>
    clear HK0
    obtain ⟨i, v2, hi, rfl, HKG⟩ := hrel
    by_cases hlt : i < g.ls.length
    · obtain ⟨b, off, rfl, hb, hcell⟩ := hr (by omega)
      obtain ⟨l, hck⟩ := get_some hlt
      obtain ⟨g1, g2, g3⟩ := linkAt (hcell.keep (w' := wr) fun p hp => HKG.out.bw.cell (by omega)) hck
      have HC := hide hck
      clear hck
      go_upto_region 5 with fail
      obtain ⟨wd, hwd⟩ : ∃ wd, wd = wr.alloc (Obj.cells #[.int .i64 l.a, .int .i64 l.b, .int .i64 l.c] 64) := ⟨_, rfl⟩
      have HL : Hid (Blk wd wr.heap.size 64 #[.int .i64 l.a, .int .i64 l.b, .int .i64 l.c]) := hide (by rw [hwd]; exact Blk.new _ _ _)
      have HKd := hide (HKG.out.below (show Below wr.heap.size wr wd from by rw [hwd]; exact below1 _ _))
      rw [← hwd]
      clear hwd HKG g1 g2 g3
      have k0 := HL.out.cell 0
      have k1 := HL.out.cell 1
      have k2 := HL.out.cell 2
      go_wp2_with fail
      refine (cloWithout_any b0 (i : Int) (k : Int) l _ (hK.up HKd.out.bw)).mono ?_
      rintro e w3 ⟨rfl, hb3⟩
      have HK3 := hide (HKd.out.below hb3)
      have HL3 := hide (HL.out.up hb3)
      clear HKd HL hb3 k0 k1 k2
      by_cases hik : i = k
      · subst hik
        rw [tb_no (fun h => h rfl)]
        have HKN : Hid (KG w w3 (B + 1) (B + 1 + 1) g.n v2 ((g.ls.take (i + 1)).eraseIdx i)) := hide (by rw [er_skip]; exact HK3.out)
        clear HK3
        go_wp2
        go_roundg (gk - 1)
        case measure => omega
        case rel => exact ⟨i + 1, v2, by omega, by go_num, HKN⟩
      · rw [tb_yes (show (i : Int) ≠ (k : Int) by omega)]
        have HN : Hid ((g.ls.take (i + 1)).eraseIdx k = (g.ls.take i).eraseIdx k ++ [l]) := hide (er_step HC.out hik)
        obtain ⟨L, hL⟩ : ∃ L, L = (g.ls.take i).eraseIdx k := ⟨_, rfl⟩
        rw [← hL] at HK3 HN
        have hLl : L.length ≤ 1048576 := by rw [hL]; have := List.length_eraseIdx_le (g.ls.take i) k; rw [List.length_take] at this; omega
        clear hL
        obtain ⟨A2, k2', rfl, _, _⟩ := HK3.out.o.lit
        have k0 := HL3.out.cell 0
        have k1 := HL3.out.cell 1
        have k2 := HL3.out.cell 2
        have t1 := HK3.out.bt.cell 1
        go_upto_region 7 with (at_builtin; refine wpList_app (by rfl) infL2 (.tmp 24) (.tmp 26) (by rfl) _ _ (by rfl) (by rfl) w.heap.size (w3.heap.size + 1) L [l] (HK3.out.o.below (below1 _ _)) (slr_one (Blk.new w3 64 #[.int .i64 l.a, .int .i64 l.b, .int .i64 l.c]) rfl (by omega)) (by simp; omega) (by have := HK3.out.bw.size; simp; omega) ?_; intro A4 c4 w4 hO4 hg4 hd4; obtain ⟨K4, B4⟩ := (HK3.out.below (below1 w3 (Obj.cells #[.int .i64 l.a, .int .i64 l.b, .int .i64 l.c] 64))).app hg4 hO4 (by omega) (by omega); have q1 := B4.cell 1; have q2 := B4.free 1)
        have HKN : Hid (KG w (w4.setCell ⟨B + 1 + 1, 1, none⟩ (.slice A4 (L.length + [l].length) c4)) (B + 1) (B + 1 + 1) g.n (.slice A4 (L.length + [l].length) c4) ((g.ls.take (i + 1)).eraseIdx k)) := hide (by rw [HN.out]; exact K4)
        clear K4 B4 q1 q2 hO4 hg4 hd4 HK3 HL3 k0 k1 k2 t1
        go_wp2
        go_roundg (gk - 1)
        case measure => omega
        case rel => exact ⟨i + 1, _, by omega, by go_num, HKN⟩
    · have HKF : Hid (KG w wr (B + 1) (B + 1 + 1) g.n v2 (Wo g k).ls) := hide (by have h := HKG.out; rw [List.take_of_length_le (by omega)] at h; exact h)
      clear HKG
      obtain ⟨A2, k2', rfl, _, _⟩ := HKF.out.o.lit
      have o0 := HKF.out.br.cell 0
      have o1 := HKF.out.br.cell 1
      have y0 := HKF.out.br.free 0
      have y1 := HKF.out.br.free 1
      have t0 := HKF.out.bt.cell 0
      have t1 := HKF.out.bt.cell 1
      go_wp2_with fail
      refine bodyPost_ret (v := .agg #[.int .i64 g.n, .slice A2 (Wo g k).ls.length k2']) (by simp [results, Try.results74, go_sem, o0, o1]) rfl ⟨_, rfl, ⟨_, rfl, own_far' (own_far' HKF.out.o (own_blk_ne HKF.out.o HKF.out.br (by decide)) _) (own_blk_ne HKF.out.o HKF.out.br (by decide)) _⟩, (HKF.out.bw.setCell (by show w.heap.size ≤ B + 1; omega) _).setCell (by show w.heap.size ≤ B + 1; omega) _⟩
end Go.Proofs.Ytbhkjeicogjfbaa
