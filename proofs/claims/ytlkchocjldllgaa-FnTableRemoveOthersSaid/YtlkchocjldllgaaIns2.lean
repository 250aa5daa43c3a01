/- slices.Insert of one route: the row is full; and all cases together. Conditions: the slice is the call's own, the route lies in a block of its own. -/
import Derived.Test.YtlkchocjldllgaaIns
namespace Go.Proofs.Ytlkchocjldllgaa
open Go.RowKit

set_option maxRecDepth 100000 in
set_option maxHeartbeats 1600000 in
theorem ins_full (g n : Nat) (l : List Rt) (r : Rt) (k vb base : Nat) (w : World) (hO : Own rc 40 3 w base (.slice (some ⟨g, 0, none⟩) n n) l) (hl : l.length ≤ 1048576) (hV : Blk w vb 40 #[.int .i64 r.pre, .int .i64 r.bits, .int .i64 r.hop])
    (hk : k < n) (hbs : base ≤ w.heap.size) :
    Calls Try.prog 75 #[.slice (some ⟨g, 0, none⟩) n n, .int .i64 k, .slice (some ⟨vb, 0, none⟩) 1 1] w (InsPost l r k base (.slice (some ⟨g, 0, none⟩) n n) w) := by
  obtain ⟨hn, hc, hm⟩ := hO.caps
  obtain ⟨i0, hi, hz0, hz1, hz2⟩ := info_parts Try.infoR
  have hsz : (Try.prog.info? 40).map (·.size) = some 3 := by rw [hi]; simp [hz1]
  have hgl : g < w.heap.size := (World.ownsRow.lt hO g rfl).2
  have hvl : vb < w.heap.size := hV.lt
  have hTl : ((l.take k).flatMap rc).length = k * 3 := by rw [flat_len rc_len, List.length_take, Nat.min_eq_left (by omega)]
  have hDl : ((l.drop k).flatMap rc).length = (n - k) * 3 := by rw [flat_len rc_len, List.length_drop, hn]
  have hrows : ∀ W : World, (∀ p : Addr, p.block < w.heap.size → W.cell? p = w.cell? p) → ∀ j u, ((l.drop k).flatMap rc)[j]? = some u → W.cell? ((⟨g, k * 3, none⟩ : Addr).add j) = some u := by
    intro W hW j u hu
    have h1 := (hO.rows rc_len (by omega)).flat rc_len (k * 3 + j) u (by rw [← flat_drop rc_len, List.getElem?_drop] at hu; exact hu)
    rw [add_off, Nat.zero_add] at h1
    rw [add_off]
    exact (hW _ hgl).trans h1
  have hold : (Builtin.firstCells i0.size k (.slice (some ⟨g, 0, none⟩) k n)).run Try.prog w.drew = .ok ((l.take k).flatMap rc).toArray w.drew := by
    rw [hz1]
    refine run_firstCells_some w.drew 3 k ⟨g, 0, none⟩ k n _ hTl fun j u hu => ?_
    rw [← flat_take rc_len, List.getElem?_take] at hu
    split at hu
    · have h1 := (hO.rows rc_len (by omega)).flat rc_len j u hu
      exact h1
    · cases hu
  have hcapk : n < k + (n + 1 - k) := by omega
  have hz := Lib.run_append_grow_zeros (P := Try.prog) w 28 3 28 40 i0 _ .i64 .i64 Try.underlying28 Try.underlying3 hi hz0 (some ⟨g, 0, none⟩) k n _ hold (n + 1 - k) (by omega) (by rw [hz1]; omega) hcapk (by omega) (by rw [hz2]; omega)
    (by rw [hz2]; have := nextslicecap_le (need := k + (n + 1 - k)) (old := n) hcapk; omega)
  rw [show k + (n + 1 - k) = n + 1 from by omega] at hz
  have hkk : ((n + 1 - k : Nat) : Int) = (n : Int) + 1 - (k : Int) := by omega
  rw [hkk] at hz
  clear hkk
  obtain ⟨G, hG⟩ : ∃ G, G = grownCap w (n + 1) n 40 := ⟨_, rfl⟩
  have hGn : n + 1 ≤ G := by rw [hG]; exact grownCap_ge w _ _ _
  have hGm : G ≤ maxLen := by rw [hG]; exact grownCap_le_maxLen w _ _ _ (by unfold maxLen; omega)
  rw [← hG] at hz
  clear hG
  obtain ⟨N, hN⟩ : ∃ N, N = w.heap.size := ⟨_, rfl⟩
  obtain ⟨Z, hZ⟩ : ∃ Z : Array Value, Z = Builtin.zeroCells (Value.agg #[.int .i64 0, .int .i64 0, .int .i64 0]).cells (n + 1 - k) := ⟨_, rfl⟩
  have hZl : Z.toList.length = (n + 1 - k) * 3 := by rw [hZ, Array.length_toList]; simp [Builtin.zeroCells, Value.cells]
  obtain ⟨Y, hY⟩ : ∃ Y : Array Value, Y = Builtin.zeroCells (Value.agg #[.int .i64 0, .int .i64 0, .int .i64 0]).cells (G - (n + 1)) := ⟨_, rfl⟩
  have hYl : Y.size = (G - (n + 1)) * 3 := by rw [hY]; simp [Builtin.zeroCells, Value.cells]
  rw [← hZ, ← hY, ← hN] at hz
  obtain ⟨W1, hW1⟩ : ∃ W1, W1 = w.drew.alloc (.cells (((l.take k).flatMap rc).toArray ++ Z ++ Y) 40) := ⟨_, rfl⟩
  rw [← hW1] at hz
  have hg1 : w.grownBy W1 none := by rw [hW1]; exact grown_of_drew (World.grownBy_alloc w.drew _ none)
  have own1 : W1.ownsRow base 40 3 (.slice (some ⟨N, 0, none⟩) (n + 1) G) (n + 1) ((l.take k).flatMap rc ++ Z.toList) := by
    refine ⟨by rw [List.length_append, hTl, hZl]; omega, .inr ⟨N, G, _, rfl, by omega, by rw [hW1, hN]; exact heap_alloc_new w.drew _, hGn, hGm, ?_, ?_⟩⟩
    · simp only [Array.size_append, List.size_toArray, hTl, hYl]
      rw [Array.length_toList] at hZl
      omega
    · simp only [Array.toList_append]
      rw [List.take_left' (by rw [List.length_append, hTl, hZl]; omega)]
  have hcell1 : ∀ p : Addr, p.block < w.heap.size → W1.cell? p = w.cell? p := fun p hp => World.cell?_of_block (hg1.block p.block hp (by simp))
  have hcpA : ∀ ty dc, (Builtin.copy_ #[28, 28] ty #[.slice (some ⟨N, k * 3, none⟩) (n + 1 - k) dc, .slice (some ⟨vb, 0, none⟩) 1 1]).run Try.prog W1 = .ok (goInt (Nat.min 1 (n + 1 - k))) (W1.setCells N (k * 3) (rc r)) := fun ty dc =>
    run_copyK W1 _ _ ty 40 3 N (k * 3) (n + 1 - k) dc ⟨vb, 0, none⟩ 1 1 _ Try.underlying28 hsz (by rw [rc_len]; simp only [Nat.min_def]; split <;> omega)
      (fun j u hu => by rw [add_off, Nat.zero_add, hcell1 _ hvl, hV.cell]; simpa using (show [Value.int .i64 r.pre, Value.int .i64 r.bits, Value.int .i64 r.hop][j]? = some u from hu))
      (fun j hj => own_slots own1 _ (by rw [rc_len] at hj; omega)) (fun j _ => World.ownsRow.frozenAt own1 _) (rc_one r)
  obtain ⟨own2, hg2⟩ := own_cells (rc r) (k * 3) W1 _ own1
  obtain ⟨W2, hW2⟩ : ∃ W2, W2 = W1.setCells N (k * 3) (rc r) := ⟨_, rfl⟩
  rw [← hW2] at hcpA own2 hg2
  have hcell2 : ∀ p : Addr, p.block < w.heap.size → W2.drew.cell? p = w.cell? p := fun p hp =>
    (World.cell?_of_block (hg2.block p.block (Nat.lt_of_lt_of_le hp hg1.size) (by intro h; injection h; omega))).trans (hcell1 p hp)
  have hsrc2 := hrows W2.drew hcell2
  have hcpB : ∀ ty dc sc, (Builtin.copy_ #[28, 28] ty #[.slice (some ⟨N, (k + 1) * 3, none⟩) (n - k) dc, .slice (some ⟨g, k * 3, none⟩) (n - k) sc]).run Try.prog W2.drew = .ok (goInt (Nat.min (n - k) (n - k))) (W2.drew.setCells N ((k + 1) * 3) ((l.drop k).flatMap rc)) := fun ty dc sc =>
    run_copyK W2.drew _ _ ty 40 3 N ((k + 1) * 3) (n - k) dc ⟨g, k * 3, none⟩ (n - k) sc _ Try.underlying28 hsz (by rw [hDl]; simp only [Nat.min_def]; split <;> omega) hsrc2
      (fun j hj => own_slots (World.ownsRow.drew own2) _ (by rw [hDl] at hj; omega)) (fun j _ => World.ownsRow.frozenAt (World.ownsRow.drew own2) _) (flat_one rc_one _)
  obtain ⟨own3, hg3⟩ := own_cells ((l.drop k).flatMap rc) ((k + 1) * 3) W2.drew _ (World.ownsRow.drew own2)
  obtain ⟨W3, hW3⟩ : ∃ W3, W3 = W2.drew.setCells N ((k + 1) * 3) ((l.drop k).flatMap rc) := ⟨_, rfl⟩
  rw [← hW3] at hcpB own3 hg3
  have hkl : k ≤ l.length := by omega
  have hZl' : Z.toList.length = (l.length + 1 - k) * 3 := by rw [hZl, hn]
  have h5 := ins_grow rc_len l r Z.toList k hkl hZl'
  rw [h5] at own3
  have hgN : w.grownBy W3 (some N) := grown_trans (grown_none hg1) (grown_trans hg2 (grown_of_drew hg3))
  have hgg : w.grownBy W3 (some g) := ⟨hgN.os, hgN.tape, hgN.output, hgN.size, fun i hi _ => hgN.block i hi (by intro h; injection h; omega)⟩
  have hE : InsPost l r k base (.slice (some ⟨g, 0, none⟩) n n) w (.returned (.slice (some ⟨N, 0, none⟩) (n + 1) G)) W3 := by
    refine ⟨some ⟨N, 0, none⟩, G, by rw [hn], ?_, hgg⟩
    unfold Own
    rw [show (l.take k ++ r :: l.drop k).length = n + 1 from by simp; omega, ← hn]
    exact own3
  have HE := hide hE
  unfold maxLen at hGm
  clear hN hc hE own1 own2 own3 hg1 hg2 hg3 hgN hgg hV hrows hsrc2 hDl hTl hZl hZl' hYl hold hz0 hz1 hz2 hi hsz hW1 hW2 hW3 h5 hcell1 hcell2 hZ hY hm hO
  have hn1 : n ≤ 1048576 := by omega
  clear hn hl hkl
  have e1 : ((k : Int) == (n : Int)) = false := by simp; omega
  have q1 : (0 : Int) ≤ (k : Int) + 1 := by omega
  have q2 : k ≤ n := by omega
  have q3 : k ≤ n + 1 := by omega
  have q4 : k + 1 ≤ n + 1 := by omega
  have q5 : ¬ (n = k) := by omega
  have q6 : ¬ (G = k) := by omega
  have q7 : ¬ (G = k + 1) := by omega
  have q9 : ((k : Int) + 1).toNat = k + 1 := by omega
  have q11 : (k : Int) + 1 ≤ (n : Int) + 1 := by omega
  have q12 : n + 1 - (k + 1) = n - k := by omega
  have q10 : IntKind.i64.wrap ((k : Int) + 1) = (k : Int) + 1 := by rw [IntKind.wrap_i64]; omega
  go_enter Try.func75, Try.ntmps75
  go_wp2_with (first
    | (at_builtin; refine wpList_append_r _ rfl (.tmp 34) (.tmp 39) _ _ rfl _ _ rfl rfl hz ?_)
    | (with_reducible refine wpList_copy_r _ rfl (.tmp 43) (.tmp 44) 28 28 rfl _ _ rfl rfl (hcpA _ _) ?_))
  go_region_law (refine step_copy_r (by rfl) (.tmp 50) (.tmp 53) 28 28 (by rfl) (.slice (some ⟨N, (k + 1) * 3, none⟩) (n - k) (G - (k + 1))) (.slice (some ⟨g, k * 3, none⟩) (n - k) (n - k)) (by simp [Act.eval, Act.put]) (by simp [Act.eval, Act.put]) (hcpB 3 (G - (k + 1)) (n - k)) ?_)
  go_wp2
  go_ret
  exact HE.out
theorem ins_any (v : Value) (l : List Rt) (r : Rt) (k vb base : Nat) (w : World) (hO : Own rc 40 3 w base v l) (hl : l.length ≤ 1048576) (hV : Blk w vb 40 #[.int .i64 r.pre, .int .i64 r.bits, .int .i64 r.hop]) (hvb : v.ownBlock ≠ some vb)
    (hk : k ≤ l.length) (hbs : base ≤ w.heap.size) :
    Calls Try.prog 75 #[v, .int .i64 k, .slice (some ⟨vb, 0, none⟩) 1 1] w (InsPost l r k base v w) := by
  by_cases hkn : k = l.length
  · subst hkn
    exact ins_end v l r vb base w hO hl hV hbs
  · obtain ⟨g, cap, rfl, _, _⟩ := hO.form (by omega)
    obtain ⟨_, hc, _⟩ := hO.caps
    by_cases hroom : l.length + 1 ≤ cap
    · exact ins_room g l.length cap l r k vb base w hO hl hV (fun h => hvb (by rw [h]; rfl)) (by omega) hroom
    · obtain rfl : cap = l.length := by omega
      exact ins_full g l.length l r k vb base w hO hl hV (by omega) hbs
end Go.Proofs.Ytlkchocjldllgaa
