/- The program's election, walked: it returns the speaker and the backup of the plain law. Conditions: valid candidates, at most 1048576. -/
import Derived.Test.YtkldfjlgphapeaaElect
namespace Go.Proofs.Ytkldfjlgphapeaa
open Go.RowKit

theorem great_next {cs : List Cand} {k : Nat} {c : Cand} {g : Int} (hk : cs[k]? = some c) (h : great g (cs.drop k) = great 0 cs) : great (if 0 < c.prio then max g c.claim else g) (cs.drop (k + 1)) = great 0 cs := by
  rw [← h, List.drop_eq_getElem_cons (get_lt hk)]
  simp only [great]
  rw [(List.getElem?_eq_some_iff.1 hk).2]

set_option maxHeartbeats 800000 in
theorem elect_any (v : Value) (cs : List Cand) (w : World) (hv : SlR cc 3 w w.heap.size v cs) (hn : cs.length ≤ 1048576) (hV : Valid cs) :
    Calls Try.prog 33 #[v] w fun e w' => e = .returned (.tuple #[.int .i64 (spk cs), .int .i64 (bak cs)]) ∧ Below w.heap.size w w' := by
  have HVV := hide hV
  clear hV
  have hv0 := hv
  obtain ⟨A, cap, rfl, hc, hr⟩ := hv
  go_enter Try.func33, Try.ntmps33
  go_wp2
  go_loopg [11] (cs.length) (fun gg i wr => ∃ (k : Nat) (g : Int), k + gg = cs.length ∧ i = .int .i64 k ∧ Hid (Blk wr w.heap.size 3 #[.int .i64 g]) ∧ Below w.heap.size w wr ∧ Hid (great g (cs.drop k) = great 0 cs))
  case atStart => exact ⟨0, 0, by omega, rfl, hide (Blk.new _ _ _), below1 _ _, hide rfl⟩
  case round =>
    obtain ⟨k, g, hk, rfl, HB, hbe, HV⟩ := hrel
    have hu := HB.out.cell 0
    have hfr := HB.out.free 0
    have hlt0 := HB.out.lt
    have hne1 : w.heap.size ≠ wr.heap.size := by omega
    by_cases hlt : k < cs.length
    · obtain ⟨b, off, rfl, hb, hcell⟩ := hr (by omega)
      obtain ⟨c, hck⟩ := get_some hlt
      obtain ⟨g1, g2, g3⟩ := candAt (hcell.keep (w' := wr) fun p hp => hbe.cell (by omega)) hck
      have HC := hide hck
      clear hck
      have hstep := great_next HC.out HV.out
      by_cases hp : 0 < c.prio
      · rw [if_pos hp] at hstep
        by_cases hm : g ≤ c.claim
        · rw [show max g c.claim = c.claim from by omega] at hstep
          have HS := hide hstep
          clear hstep
          go_wp2
          all_goals
            go_roundg (gk - 1)
            case measure => omega
            case rel => first | exact ⟨k + 1, c.claim, by omega, by go_num, hide ((HB.out.put 0 _).alloc _), (hbe.setCell (Nat.le_refl _) _).alloc (by simpa using hbe.size) _, HS⟩ | exact ⟨k + 1, g, by omega, by go_num, hide ((HB.out.put 0 _).alloc _), (hbe.setCell (Nat.le_refl _) _).alloc (by simpa using hbe.size) _, ((show c.claim = g from by omega) ▸ HS)⟩
        · rw [show max g c.claim = g from by omega] at hstep
          have HS := hide hstep
          clear hstep
          go_wp2
          all_goals
            go_roundg (gk - 1)
            case measure => omega
            case rel => first | exact ⟨k + 1, g, by omega, by go_num, hide ((HB.out.put 0 _).alloc _), (hbe.setCell (Nat.le_refl _) _).alloc (by simpa using hbe.size) _, HS⟩ | (exfalso; omega)
      · rw [if_neg hp] at hstep
        have HS := hide hstep
        clear hstep
        go_wp2
        go_roundg (gk - 1)
        case measure => omega
        case rel => exact ⟨k + 1, g, by omega, by go_num, hide (HB.out.alloc _), hbe.alloc hbe.size _, HS⟩
    · have hG : g = great 0 cs := by have := HV.out; rw [List.drop_eq_nil_of_le (by omega)] at this; exact this
      clear HV
      subst hG
      have hu' : wr.cell? ⟨w.heap.size, 0, none⟩ = some (.int .i64 (great 0 cs)) := hu
      clear hu
      have hvc := (hv0.below hbe).more hbe.size
      have hbk := bak_eq HVV.out
      have hsk := spk_eq HVV.out
      have HBK := hide hbk
      have HSK := hide hsk
      clear hbk hsk
      go_wp2_with fail
      refine (best_clo1 _ cs w.heap.size (great 0 cs) _ hvc hn hu').mono ?_
      rintro e w1 ⟨rfl, hb1⟩
      have hbe1 := hbe.trans (hb1.mono hbe.size)
      obtain ⟨sp, hsp⟩ : ∃ sp, sp = spk' cs := ⟨_, rfl⟩
      rw [show nodeO (pb (fun c => 0 < c.prio ∧ c.claim = great 0 cs) none cs) = sp from hsp.symm]
      rw [HSK.out] at hsp
      subst hsp
      clear hu' hfr hlt0 hne1 HB
      go_wp2_with fail
      have hbo := below1 w1 (Obj.cells #[Value.int IntKind.i64 (spk cs)] 3)
      have q0 : (w1.alloc (Obj.cells #[Value.int IntKind.i64 (spk cs)] 3)).cell? ⟨w1.heap.size, 0, none⟩ = some (.int .i64 (spk cs)) := by simp [go_sem]
      have hv1 := (hvc.up hb1).up hbo
      have hbe2 := hbe1.trans (hbo.mono hbe1.size)
      refine (best_clo2 _ cs w1.heap.size (spk cs) _ hv1 hn q0).mono ?_
      rintro e w2 ⟨rfl, hb2⟩
      have hbe3 := hbe2.trans (hb2.mono hbe2.size)
      have q1 : w2.cell? ⟨w1.heap.size, 0, none⟩ = some (.int .i64 (spk cs)) := (hb2.cell (World.block_lt_of_cell? _ _ q0)).trans q0
      rw [show nodeO (pb (fun c => 0 < c.prio ∧ (c.node ≠ spk cs ∧ c.claim ≠ 0)) none cs) = bak1 cs from rfl]
      clear q0
      by_cases hbk : bak1 cs < 0
      · have hbb : bak2 cs = bak cs := by rw [HBK.out, if_pos hbk]
        have HBB := hide hbb
        clear hbb
        go_wp2_with fail
        refine (best_clo3 _ cs w1.heap.size (spk cs) _ (hv1.up hb2) hn q1).mono ?_
        rintro e w3 ⟨rfl, hb3⟩
        rw [show nodeO (pb (fun c => 0 < c.prio ∧ c.node ≠ spk cs) none cs) = bak2 cs from rfl, HBB.out]
        have q2 : w3.cell? ⟨w1.heap.size, 0, none⟩ = some (.int .i64 (spk cs)) := (hb3.cell (World.block_lt_of_cell? _ _ q1)).trans q1
        have hbe4 := hbe3.trans (hb3.mono hbe3.size)
        clear q1
        go_wp2
        go_ret2
        exact ⟨rfl, hbe4⟩
      · have hbb : bak1 cs = bak cs := by rw [HBK.out, if_neg hbk]
        rw [hbb] at hbk
        rw [hbb]
        clear hbb
        go_wp2
        go_ret2
        exact ⟨rfl, hbe3⟩

theorem speakerElect_any (v : Value) (cs : List Cand) (w : World) (hv : SlR cc 3 w w.heap.size v cs) (hn : cs.length ≤ 1048576) :
    Calls Try.prog 19 #[v] w fun e w' => e = .returned (.tuple #[.int .i64 (if validB cs = true then spk cs else -1), .int .i64 (if validB cs = true then bak cs else -1)]) ∧ Below w.heap.size w w' := by
  by_cases hV : Valid cs
  · have hb : validB cs = true := tb_yes hV
    rw [hb, if_pos rfl, if_pos rfl]
    have HV := hide hV
    clear hV
    go_enter Try.func19, Try.ntmps19
    go_wp2_with fail
    refine (candidatesValid_any v cs _ hv hn).mono ?_
    rintro e w1 ⟨rfl, hb1⟩
    rw [hb]
    go_wp2_with fail
    refine (elect_any v cs _ (hv.up hb1) hn HV.out).mono ?_
    rintro e w2 ⟨rfl, hb2⟩
    go_wp2
    go_ret2
    exact ⟨rfl, hb1.trans (hb2.mono hb1.size)⟩
  · have hb : validB cs = false := tb_no hV
    rw [hb, if_neg (by decide), if_neg (by decide)]
    clear hV
    go_enter Try.func19, Try.ntmps19
    go_wp2_with fail
    refine (candidatesValid_any v cs _ hv hn).mono ?_
    rintro e w1 ⟨rfl, hb1⟩
    rw [hb]
    go_wp2
    go_ret2
    exact ⟨rfl, hb1⟩
theorem specElect_any (v : Value) (cs : List Cand) (w : World) (hv : SlR cc 3 w w.heap.size v cs) (hn : cs.length ≤ 1048576) :
    Calls Try.prog 18 #[v] w fun e w' => e = .returned (.tuple #[.int .i64 (if validB cs = true then spk cs else -1), .int .i64 (if validB cs = true then bak cs else -1)]) ∧ Below w.heap.size w w' := by
  by_cases hV : Valid cs
  · have hb : validB cs = true := tb_yes hV
    rw [hb, if_pos rfl, if_pos rfl]
    have HV := hide hV
    clear hV
    go_enter Try.func18, Try.ntmps18
    go_wp2_with fail
    refine (specValid_any v cs _ hv hn).mono ?_
    rintro e w1 ⟨rfl, hb1⟩
    rw [hb]
    go_wp2_with fail
    refine (l13Elect_any v cs _ (hv.up hb1) hn HV.out).mono ?_
    rintro e w2 ⟨rfl, hb2⟩
    go_wp2
    go_ret2
    exact ⟨rfl, hb1.trans (hb2.mono hb1.size)⟩
  · have hb : validB cs = false := tb_no hV
    rw [hb, if_neg (by decide), if_neg (by decide)]
    clear hV
    go_enter Try.func18, Try.ntmps18
    go_wp2_with fail
    refine (specValid_any v cs _ hv hn).mono ?_
    rintro e w1 ⟨rfl, hb1⟩
    rw [hb]
    go_wp2
    go_ret2
    exact ⟨rfl, hb1⟩
end Go.Proofs.Ytkldfjlgphapeaa
