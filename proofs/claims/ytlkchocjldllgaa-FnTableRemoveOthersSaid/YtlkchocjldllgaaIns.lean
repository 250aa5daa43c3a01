/- slices.Insert of one route. Conditions: the slice is the call's own, the route lies in a block of its own. -/
import Derived.Test.YtlkchocjldllgaaCopyS
import Derived.Test.YtlkchocjldllgaaCopyK
import Derived.Deep.RegionLaw
namespace Go.Proofs.Ytlkchocjldllgaa
open Go.RowKit

def InsPost (l : List Rt) (r : Rt) (k base : Nat) (v : Value) (w : World) (e : Ending) (w' : World) : Prop :=
  ∃ A cap, e = .returned (.slice A (l.length + 1) cap) ∧ Own rc 40 3 w' base (.slice A (l.length + 1) cap) (l.take k ++ r :: l.drop k) ∧ w.grownBy w' v.ownBlock
theorem grown_of_drew {w w' : World} {row : Option Nat} (h : w.drew.grownBy w' row) : w.grownBy w' row := ⟨h.os, h.tape, h.output, h.size, h.block⟩
theorem grown_none {w w' : World} {row : Option Nat} (h : w.grownBy w' none) : w.grownBy w' row := ⟨h.os, h.tape, h.output, h.size, fun i hi _ => h.block i hi (by simp)⟩
set_option maxRecDepth 100000 in
set_option maxHeartbeats 1600000 in
/-- At the end. -/
theorem ins_end (v : Value) (l : List Rt) (r : Rt) (vb base : Nat) (w : World) (hO : Own rc 40 3 w base v l) (hl : l.length ≤ 1048576) (hV : Blk w vb 40 #[.int .i64 r.pre, .int .i64 r.bits, .int .i64 r.hop]) (hb : base ≤ w.heap.size) :
    Calls Try.prog 75 #[v, .int .i64 l.length, .slice (some ⟨vb, 0, none⟩) 1 1] w (InsPost l r l.length base v w) := by
  obtain ⟨A, cap, w', hrun, h2, h3, _⟩ := append_run infR hO (m := [r]) (slr_one hV rfl (Nat.lt_succ_self vb)) (by simp; omega) hb 28
  rw [List.length_singleton] at hrun h2
  have hE : InsPost l r l.length base v w (.returned (.slice A (l.length + 1) cap)) w' := by
    refine ⟨A, cap, rfl, ?_, h3⟩
    rw [List.take_of_length_le (Nat.le_refl _), List.drop_of_length_le (Nat.le_refl _)]
    exact h2
  have HE := hide hE
  obtain ⟨A0, cap0, rfl, hc0, hm0⟩ := hO.lit
  unfold maxLen at hm0
  clear h2 h3 hO hE
  have q0 : (l.length : Int) ≤ l.length := Int.le_refl _
  by_cases hcc : cap0 = l.length
  · cases A0 with
    | none =>
      go_enter Try.func75, Try.ntmps75
      go_wp2_with (at_builtin; refine wpList_append_r _ rfl (.tmp 23) (.tmp 24) _ _ rfl _ _ rfl rfl hrun ?_)
      go_ret
      exact HE.out
    | some a =>
      obtain ⟨ab, ao, asp⟩ := a
      go_enter Try.func75, Try.ntmps75
      go_wp2_with (at_builtin; refine wpList_append_r _ rfl (.tmp 23) (.tmp 24) _ _ rfl _ _ rfl rfl hrun ?_)
      go_ret
      exact HE.out
  · cases A0 with
    | none =>
      go_enter Try.func75, Try.ntmps75
      go_wp2_with (at_builtin; refine wpList_append_r _ rfl (.tmp 23) (.tmp 24) _ _ rfl _ _ rfl rfl hrun ?_)
      go_ret
      exact HE.out
    | some a =>
      obtain ⟨ab, ao, asp⟩ := a
      go_enter Try.func75, Try.ntmps75
      go_wp2_with (at_builtin; refine wpList_append_r _ rfl (.tmp 23) (.tmp 24) _ _ rfl _ _ rfl rfl hrun ?_)
      go_ret
      exact HE.out
set_option maxRecDepth 100000 in
set_option maxHeartbeats 1600000 in
/-- There is room: in place. -/
theorem ins_room (g n cap : Nat) (l : List Rt) (r : Rt) (k vb base : Nat) (w : World) (hO : Own rc 40 3 w base (.slice (some ⟨g, 0, none⟩) n cap) l) (hl : l.length ≤ 1048576) (hV : Blk w vb 40 #[.int .i64 r.pre, .int .i64 r.bits, .int .i64 r.hop]) (hvb : vb ≠ g)
    (hk : k < n) (hroom : n + 1 ≤ cap) :
    Calls Try.prog 75 #[.slice (some ⟨g, 0, none⟩) n cap, .int .i64 k, .slice (some ⟨vb, 0, none⟩) 1 1] w (InsPost l r k base (.slice (some ⟨g, 0, none⟩) n cap) w) := by
  obtain ⟨hn, hc, hm⟩ := hO.caps
  unfold maxLen at hm
  obtain ⟨i0, hi, hz0, hz1, hz2⟩ := info_parts Try.infoR
  have hsz : (Try.prog.info? 40).map (·.size) = some 3 := by rw [hi]; simp [hz1]
  have hown : w.ownsRow base 40 3 (.slice (some ⟨g, 0, none⟩) n cap) n (l.flatMap rc) := by have h := hO; unfold Own at h; rw [← hn] at h; exact h
  obtain ⟨ys, hY, hY1, hY2⟩ := own_more hown hroom
  clear hY1
  have hnm : n ≤ n + 1 := Nat.le_succ n
  obtain ⟨z, rfl, hz⟩ := hY2 hnm
  rw [Nat.add_sub_cancel_left, Nat.one_mul] at hz
  have hDl : ((l.drop k).flatMap rc).length = (n - k) * 3 := by rw [flat_len rc_len, List.length_drop, hn]
  have hsrc1 : ∀ j u, ((l.drop k).flatMap rc)[j]? = some u → w.drew.cell? ((⟨g, k * 3, none⟩ : Addr).add j) = some u := by
    intro j u hu
    have h1 := (hO.rows rc_len (by omega)).flat rc_len (k * 3 + j) u (by rw [← flat_drop rc_len, List.getElem?_drop] at hu; exact hu)
    rw [add_off] at h1 ⊢
    rw [Nat.zero_add] at h1
    exact h1
  have hcp1 : ∀ ty dc sc, (Builtin.copy_ #[28, 28] ty #[.slice (some ⟨g, (k + 1) * 3, none⟩) (n - k) dc, .slice (some ⟨g, k * 3, none⟩) (n + 1 - k) sc]).run Try.prog w.drew = .ok (goInt (Nat.min (n + 1 - k) (n - k))) (w.drew.setCells g ((k + 1) * 3) ((l.drop k).flatMap rc)) := fun ty dc sc =>
    run_copyK w.drew _ _ ty 40 3 g ((k + 1) * 3) (n - k) dc ⟨g, k * 3, none⟩ (n + 1 - k) sc _ Try.underlying28 hsz (by rw [hDl]; simp only [Nat.min_def]; split <;> omega) hsrc1
      (fun j hj => own_slots (World.ownsRow.drew hY) _ (by rw [hDl] at hj; omega)) (fun j _ => World.ownsRow.frozenAt (World.ownsRow.drew hY) _) (flat_one rc_one _)
  obtain ⟨h1, hg1⟩ := own_cells ((l.drop k).flatMap rc) ((k + 1) * 3) w.drew _ (World.ownsRow.drew hY)
  obtain ⟨W1, hW1⟩ : ∃ W1, W1 = w.drew.setCells g ((k + 1) * 3) ((l.drop k).flatMap rc) := ⟨_, rfl⟩
  rw [← hW1] at hcp1 h1 hg1
  have hV1 : Blk W1 vb 40 #[.int .i64 r.pre, .int .i64 r.bits, .int .i64 r.hop] := (show Blk w.drew vb _ _ from hV).grown hg1 (by simpa using hvb)
  have hcp2 : ∀ ty dc, (Builtin.copy_ #[28, 28] ty #[.slice (some ⟨g, k * 3, none⟩) (n + 1 - k) dc, .slice (some ⟨vb, 0, none⟩) 1 1]).run Try.prog W1 = .ok (goInt (Nat.min 1 (n + 1 - k))) (W1.setCells g (k * 3) (rc r)) := fun ty dc =>
    run_copyK W1 _ _ ty 40 3 g (k * 3) (n + 1 - k) dc ⟨vb, 0, none⟩ 1 1 _ Try.underlying28 hsz (by rw [rc_len]; simp only [Nat.min_def]; split <;> omega) (fun j u hu => by rw [add_off, Nat.zero_add, hV1.cell]; simpa using (show [Value.int .i64 r.pre, Value.int .i64 r.bits, Value.int .i64 r.hop][j]? = some u from hu))
      (fun j hj => own_slots h1 _ (by rw [rc_len] at hj; omega)) (fun j _ => World.ownsRow.frozenAt h1 _) (rc_one r)
  obtain ⟨h2, hg2⟩ := own_cells (rc r) (k * 3) W1 _ h1
  obtain ⟨W2, hW2⟩ : ∃ W2, W2 = W1.setCells g (k * 3) (rc r) := ⟨_, rfl⟩
  rw [← hW2] at hcp2 h2 hg2
  have hE : InsPost l r k base (.slice (some ⟨g, 0, none⟩) n cap) w (.returned (.slice (some ⟨g, 0, none⟩) (n + 1) cap)) W2 := by
    have hgg := grown_of_drew (grown_trans hg1 hg2)
    refine ⟨some ⟨g, 0, none⟩, cap, by rw [hn], ?_, hgg⟩
    have hkl : k ≤ l.length := by omega
    have h5 := ins_shift rc_len l r z hz k hkl
    rw [h5] at h2
    unfold Own
    rw [show (l.take k ++ r :: l.drop k).length = n + 1 from by simp; omega, ← hn]
    exact h2
  have HE := hide hE
  have hov : ∀ lb cb, (callFunc 82 #[.slice (some ⟨vb, 0, none⟩) 1 1, .slice (some ⟨g, (k + 1) * 3, none⟩) lb cb]).run Try.prog w = .ok (.value (.bool false)) w := fun lb cb => by
    have hsh : ∃ m, w.shape? g = some (40, m + 1) := by
      rcases hO.2 with ⟨h', _⟩ | ⟨g', cap', cur, h', _, hg, _, _, hcs, _⟩
      · simp at h'
      · simp only [Value.slice.injEq, Option.some.injEq, Addr.mk.injEq, and_true] at h'
        obtain ⟨rfl, _, rfl⟩ := h'
        exact ⟨cur.size - 1, by unfold World.shape?; rw [hg]; simp; omega⟩
    obtain ⟨mm, hsh⟩ := hsh
    rw [run_callFunc_extern Try.func82 (by kernel_rfl) (by kernel_rfl) (by kernel_rfl) (e := Extern.SlicesOverlaps.overlaps #[28, 28] #[4]) (by kernel_rfl),
      Lib.run_overlaps_apart w 28 4 40 Try.underlying28 3 (fun w => by kernel_rfl) ⟨vb, 0, none⟩ ⟨g, (k + 1) * 3, none⟩ 1 1 lb cb hvb 40 40 3 (mm + 1) (by unfold World.shape?; rw [show w.heap[vb]? = _ from hV]; rfl) hsh (by omega) (hV.free 0) (hV.free 3)]
    rfl
  clear hE h1 h2 hg1 hg2 hV1 hsrc1 hDl hY hY2 hown hz hz0 hz1 hz2 hi hsz hW1 hW2
  have hn1 : n ≤ 1048576 := by omega
  clear hn hl
  have e1 : ((k : Int) == (n : Int)) = false := by simp; omega
  have e2 : decide ((cap : Int) < (n : Int) + 1) = false := by simp; omega
  have q1 : (0 : Int) ≤ (k : Int) + 1 := by omega
  have q2 : k ≤ n := by omega
  have q3 : k ≤ n + 1 := by omega
  have q4 : k + 1 ≤ n + 1 := by omega
  have q5 : ¬ (cap = k) := by omega
  have q6 : ¬ (cap = k + 1) := by omega
  have q7 : (k : Int) ≤ (n : Int) + 1 := by omega
  have q8 : (0 : Int) ≤ (n : Int) + 1 := by omega
  have q9 : ((k : Int) + 1).toNat = k + 1 := by omega
  have q11 : (k : Int) + 1 ≤ (n : Int) + 1 := by omega
  have q12 : n + 1 - (k + 1) = n - k := by omega
  have q10 : IntKind.i64.wrap ((k : Int) + 1) = (k : Int) + 1 := by rw [IntKind.wrap_i64]; omega
  go_enter Try.func75, Try.ntmps75
  go_wp2_with (simp only [hov])
  go_region_law (refine step_copy_r (by rfl) (.tmp 73) (.tmp 76) 28 28 (by rfl) (.slice (some ⟨g, (k + 1) * 3, none⟩) (n - k) (cap - (k + 1))) (.slice (some ⟨g, k * 3, none⟩) (n + 1 - k) (cap - k)) (by simp [Act.eval, Act.put]) (by simp [Act.eval, Act.put]) (hcp1 3 (cap - (k + 1)) (cap - k)) ?_)
  go_wp2_with (refine wpList_copy_r _ rfl (.tmp 80) (.tmp 81) _ _ rfl _ _ rfl rfl (hcp2 _ _) ?_)
  go_ret
  exact HE.out
end Go.Proofs.Ytlkchocjldllgaa
