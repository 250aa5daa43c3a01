/- Drawing candidates: some list of at most eight candidates, in new memory. Conditions: the reader's place is at most 1000. -/
import Derived.Test.YtkldfjlgphapeaaCand
import Derived.Test.YtkldfjlgphapeaaPick
namespace Go.Proofs.Ytkldfjlgphapeaa
open Go.RowKit

theorem cc_one (c : Cand) : ∀ u ∈ cc c, u.oneCell' = true := by
  intro u hu
  simp only [cc, List.mem_cons, List.not_mem_nil, or_false] at hu
  rcases hu with rfl | rfl | rfl <;> rfl
theorem own_snoc {w : World} {base : Nat} {v : Value} {cs : List Cand} {c : Cand} {e : TypeId} (h : w.ownsRow base e 3 v (cs.length + 1) (cs.flatMap cc ++ cc c)) : Own cc e 3 w base v (cs ++ [c]) := by
  unfold Own
  simpa using h
theorem own_made {α : Type} {enc : α → List Value} {s : Nat} (w : World) (e : TypeId) : Own enc e s (w.alloc (.cells #[] e)) w.heap.size (.slice (some ⟨w.heap.size, 0, none⟩) 0 0) [] :=
  World.ownsRow_made w #[] 0 (Nat.le_refl _) (by decide) (by simp)



/-- The state of the drawing: the reader, the list so far. -/
def DrawC (w0 : World) (g : Nat) (bs : List Int) (pmax n : Nat) (v : Value) (w : World) : Prop :=
  ∃ (p : Nat) (cs : List Cand), Rd w g bs p ∧ p ≤ pmax ∧ Own cc 34 3 w w0.heap.size v cs ∧ cs.length ≤ n ∧ w0.grownBy w (some g)

def DrawCPost (g : Nat) (w : World) (e : Ending) (w' : World) : Prop :=
  ∃ (v : Value) (cs : List Cand), e = .returned v ∧ Own cc 34 3 w' w.heap.size v cs ∧ cs.length ≤ 8 ∧ w.grownBy w' (some g)

set_option maxHeartbeats 1600000 in
theorem drawCands_any (bs : List Int) (g p : Nat) (w : World) (hR : Rd w g bs p) (hp : p ≤ 1000) :
    Calls Try.prog 34 #[.pointer (some ⟨g, 0, none⟩)] w (DrawCPost g w) := by
  have hgl := hR.lt
  obtain ⟨i0, hi, hz0, hz1, hz2⟩ := info_parts Try.infoC
  go_enter Try.func34, Try.ntmps34
  go_wp2_with fail
  refine (pick_any bs g p _ _ (hR.alloc _) (by omega)).mono ?_
  rintro e w1 ⟨r1, rfl, hr1, hR1, hg1⟩
  have hO1 := (own_made (enc := cc) (s := 3) w 34).only hg1 hgl
  have hf1 : w.grownBy w1 (some g) := only_trans (only_alloc (only_refl _ _) _) hg1
  have HI : Hid (DrawC w g bs 1001 0 (.slice (some ⟨w.heap.size, 0, none⟩) 0 0) w1) := hide ⟨p + 1, [], hR1, by omega, hO1, by simp, hf1⟩
  clear hO1 hR1 hg1 hf1 hR
  go_wp2
  go_loopg [3, 5] (8) (fun gg ov iv wr => ∃ k : Nat, k + gg = 8 ∧ iv = .int .i64 k ∧ Hid (DrawC w g bs (1001 + 5 * k) k ov wr))
  case atStart => exact ⟨0, by omega, rfl, HI⟩
  case round =>
    obtain ⟨k, hk, rfl, HD⟩ := hrel
    by_cases hlt : k < 8
    · obtain ⟨p1, cs, hR1, hp1, hO1, hn1, hf1⟩ := HD.out
      go_wp2_with fail
      refine (pick_any bs g p1 _ _ hR1 (by omega)).mono ?_
      rintro e w2 ⟨r2, rfl, hr2, hR2, hg2⟩
      have hO2 := hO1.only hg2 hgl
      have hf2 := only_trans hf1 hg2
      clear hO1 hf1 hg2 hR1 HD HI
      by_cases h0 : r2 = 0
      · subst h0
        go_wp2_with fail
        refine (pick_any bs g (p1 + 1) _ _ hR2 (by omega)).mono ?_
        rintro e w3 ⟨r3, rfl, hr3, hR3, hg3⟩
        have hO3 := hO2.only hg3 hgl
        have hf3 := only_trans hf2 hg3
        clear hO2 hf2 hg3 hR2
        go_wp2_with fail
        obtain ⟨we, hwe⟩ : ∃ we, we = w3.alloc (Obj.cells #[Value.int IntKind.i64 ↑k, Value.int IntKind.i64 r3, Value.int IntKind.i64 0] 34) := ⟨_, rfl⟩
        obtain ⟨gc, hgc⟩ : ∃ gc, gc = w3.heap.size := ⟨_, rfl⟩
        have hBe : Blk we gc 34 #[Value.int IntKind.i64 ↑k, Value.int IntKind.i64 r3, Value.int IntKind.i64 0] := by rw [hwe, hgc]; exact Blk.new _ _ _
        have hRe : Rd we g bs (p1 + 1 + 1) := by rw [hwe]; exact hR3.alloc _
        have hOe : Own cc 34 3 we w.heap.size u3 cs := by rw [hwe]; exact hO3.below (below1 _ _)
        have hfe : w.grownBy we (some g) := by rw [hwe]; exact only_alloc hf3 _
        have hgg : g < gc := by rw [hgc]; exact hR3.lt
        have hqq : ∀ q, u3.ownBlock = some q → q ≠ gc := fun q hq => by rw [hgc]; have := (World.ownsRow.lt hO3 q hq).2; omega
        have hwg : w.heap.size ≤ gc := by rw [hgc]; exact hf3.size
        have hgg' : some gc ≠ some g := by intro h; injection h; omega
        rw [← hwe, ← hgc]
        clear hwe hgc hR3 hO3 hf3
        refine (pick_any bs g (p1 + 1 + 1) _ _ hRe (by omega)).mono ?_
        rintro e w4 ⟨r4, rfl, hr4, hR4, hg4⟩
        have hB4 := hBe.grown hg4 hgg'
        have hO4 := hOe.only hg4 hgl
        have hf4 := only_trans hfe hg4
        clear hBe hOe hfe hRe hg4
        by_cases hcl : r4 < r1
        · go_wp2_with fail
          refine (pick_any bs g (p1 + 1 + 1 + 1) _ _ hR4 (by omega)).mono ?_
          rintro e w5 ⟨r5, rfl, hr5, hR5, hg5⟩
          have hB5 := hB4.grown hg5 hgg'
          have hO5 := hO4.only hg5 hgl
          have hf5 := only_trans hf4 hg5
          have t2 := hB5.cell 2
          have z2 := hB5.free 2
          clear hB4 hO4 hf4 hR4 hg5
          go_upto_region 10 with fail
          obtain ⟨wd, hwd⟩ : ∃ wd, wd = w5.setCell ⟨gc, 2, none⟩ (.int .i64 r5) := ⟨_, rfl⟩
          have hBd : Blk wd gc 34 #[Value.int IntKind.i64 ↑k, Value.int IntKind.i64 r3, Value.int IntKind.i64 r5] := by rw [hwd]; exact hB5.put 2 _
          have hRd : Rd wd g bs (p1 + 1 + 1 + 1 + 1) := by rw [hwd]; exact hR5.far hgg _
          have hOd : Own cc 34 3 wd w.heap.size u3 cs := by rw [hwd]; exact hO5.keep fun q hq => Below.heap_setCell _ _ _ _ (by have := hqq q hq; exact this)
          have hfd : w.grownBy wd (some g) := by rw [hwd]; exact only_setCell hf5 (.inr hwg) _
          rw [← hwd]
          clear hwd hR5 hO5 hf5 hB5 t2 z2
          have t0 := hBd.cell 0
          have t1 := hBd.cell 1
          have t2 := hBd.cell 2
          have hx1 : cs.length + 1 ≤ maxLen := by unfold maxLen; omega
          have hx2 : (cs.length + 1) * 24 ≤ 140737488355328 := by omega
          have hx3 := hfd.size
          have hx4 : w.heap.size ≤ (wd.alloc (Obj.cells (cc ⟨k, r3, r5⟩).toArray 34)).heap.size := by simp; omega
          have HBd := hide hBd
          clear hBd
          go_wp2_with (at_builtin; refine wpList_append_own _ rfl (.tmp 29) (.tmp 31) 25 rfl w.heap.size 34 i0 _ 3 24 Try.underlying25 hi hz0 hz1 hz2 rfl (by decide) u3 cs.length (cs.flatMap cc) rfl (hOd.alloc _) ⟨wd.heap.size, 0, none⟩ 1 1 (cc ⟨k, r3, r5⟩) rfl rfl (news_at wd _ _) (cc_one _) hx1 hx2 hx4 ?_; intro v9 w9 own9 hg9 hnil9)
          have hlow : ∀ q, u3.ownBlock = some q → w.heap.size ≤ q := fun q hq => (World.ownsRow.lt hOd q hq).1
          have HD9 : Hid (DrawC w g bs (1001 + 5 * (k + 1)) (k + 1) v9 w9) := hide ⟨p1 + 1 + 1 + 1 + 1, cs ++ [⟨k, r3, r5⟩], (hRd.alloc _).own hg9 hlow hgl, by omega, own_snoc own9, by simp; omega, only_own (only_alloc hfd _) hg9 hlow⟩
          clear own9 hg9 hnil9 hlow hOd hfd hRd HBd
          go_wp2
          go_roundg (gk - 1)
          case measure => omega
          case rel => exact ⟨k + 1, by omega, by go_num, HD9⟩
        · have hBd := hB4
          have hOd := hO4
          have hfd := hf4
          have hRd := hR4
          obtain ⟨wd, hwd⟩ : ∃ wd, wd = w4 := ⟨_, rfl⟩
          subst hwd
          clear hB4 hO4 hf4 hR4
          have t0 := hBd.cell 0
          have t1 := hBd.cell 1
          have t2 := hBd.cell 2
          have hx1 : cs.length + 1 ≤ maxLen := by unfold maxLen; omega
          have hx2 : (cs.length + 1) * 24 ≤ 140737488355328 := by omega
          have hx3 := hfd.size
          have hx4 : w.heap.size ≤ (wd.alloc (Obj.cells (cc ⟨k, r3, 0⟩).toArray 34)).heap.size := by simp; omega
          have HBd := hide hBd
          clear hBd
          go_wp2_with (at_builtin; refine wpList_append_own _ rfl (.tmp 29) (.tmp 31) 25 rfl w.heap.size 34 i0 _ 3 24 Try.underlying25 hi hz0 hz1 hz2 rfl (by decide) u3 cs.length (cs.flatMap cc) rfl (hOd.alloc _) ⟨wd.heap.size, 0, none⟩ 1 1 (cc ⟨k, r3, 0⟩) rfl rfl (news_at wd _ _) (cc_one _) hx1 hx2 hx4 ?_; intro v9 w9 own9 hg9 hnil9)
          have hlow : ∀ q, u3.ownBlock = some q → w.heap.size ≤ q := fun q hq => (World.ownsRow.lt hOd q hq).1
          have HD9 : Hid (DrawC w g bs (1001 + 5 * (k + 1)) (k + 1) v9 w9) := hide ⟨p1 + 1 + 1 + 1, cs ++ [⟨k, r3, 0⟩], (hRd.alloc _).own hg9 hlow hgl, by omega, own_snoc own9, by simp; omega, only_own (only_alloc hfd _) hg9 hlow⟩
          clear own9 hg9 hnil9 hlow hOd hfd hRd HBd
          go_wp2
          go_roundg (gk - 1)
          case measure => omega
          case rel => exact ⟨k + 1, by omega, by go_num, HD9⟩
      · have hb0 : (r2 == 0) = false := by simp [h0]
        have HD2 : Hid (DrawC w g bs (1001 + 5 * (k + 1)) (k + 1) u3 w2) := hide ⟨p1 + 1, cs, hR2, by omega, hO2, by omega, hf2⟩
        clear hR2 hO2 hf2 h0
        go_wp2
        go_roundg (gk - 1)
        case measure => omega
        case rel => exact ⟨k + 1, by omega, by go_num, HD2⟩
    · have hk8 : k = 8 := by omega
      subst hk8
      obtain ⟨p1, cs, hR1, hp1, hO1, hn1, hf1⟩ := HD.out
      clear HD HI
      obtain ⟨ov, hov⟩ : ∃ ov, ov = u3 := ⟨_, rfl⟩
      subst hov
      by_cases hl0 : cs.length = 0
      · have hz : ∃ A cap, ov = .slice A 0 cap := by
          obtain ⟨A, cap, hA, _⟩ := hO1.slr cc_len
          exact ⟨A, cap, by rw [hA, hl0]⟩
        obtain ⟨A, cap, rfl⟩ := hz
        go_wp2
        go_ret
        exact ⟨_, cs, rfl, hO1, hn1, hf1⟩
      · obtain ⟨go, cap, rfl, hgo1, hgo2⟩ := hO1.form (by omega)
        have hb0 : ((cs.length : Int) == 0) = false := by simp; intro h; rw [h] at hl0; exact hl0 rfl
        go_wp2_with fail
        refine (pick_any bs g p1 _ _ hR1 (by omega)).mono ?_
        rintro e w2 ⟨r6, rfl, hr6, hR2, hg2⟩
        have hO2 := hO1.only hg2 hgl
        have hf2 := only_trans hf1 hg2
        obtain ⟨hr60, hr61⟩ := hr6
        obtain ⟨m, rfl⟩ := Int.eq_ofNat_of_zero_le hr60
        have hm : m < cs.length := by have := hr61 (by omega); omega
        clear hR1 hO1 hf1 hg2 hr60 hr61
        go_wp2_with fail
        refine (pick_any bs g (p1 + 1) _ _ hR2 (by omega)).mono ?_
        rintro e w3 ⟨r7, rfl, hr7, hR3, hg3⟩
        have hO3 := hO2.only hg3 hgl
        have hf3 := only_trans hf2 hg3
        clear hR2 hO2 hf2 hg3
        obtain ⟨c, hck⟩ := get_some hm
        have HC := hide hck
        clear hck
        by_cases h0 : r7 = 0
        · subst h0
          go_wp2_with fail
          refine (pick_any bs g (p1 + 1 + 1) _ _ hR3 (by omega)).mono ?_
          rintro e w4 ⟨r8, rfl, ⟨hr80, hr81⟩, hR4, hg4⟩
          have hr82 := hr81 (by omega)
          have hO4 := hO3.only hg4 hgl
          have hf4 := only_trans hf3 hg4
          obtain ⟨⟨u, hu⟩, hz⟩ := hO4.slot (k := m) (j := 1) rfl hm (by decide)
          have hu' : w4.cell? ⟨go, m * 3 + 1, none⟩ = some u := hu
          have hz' : w4.frozen? ⟨go, m * 3 + 1, none⟩ = false := hz
          clear hu hz hr81 hg4 hO3 hf3 hR3
          go_wp2
          go_ret
          exact ⟨_, cs.set m ⟨c.node, r8 * 11 - 1, c.claim⟩, rfl, hO4.set cc_len (j := 1) rfl HC.out (by decide) rfl, by simpa using hn1, only_setCell hf4 (.inr hgo1) _⟩
        · have hb1 : (r7 == 0) = false := by simp [h0]
          by_cases h1 : r7 = 1
          · subst h1
            go_wp2_with fail
            refine (pick_any bs g (p1 + 1 + 1) _ _ hR3 (by omega)).mono ?_
            rintro e w4 ⟨r8, rfl, ⟨hr80, hr81⟩, hR4, hg4⟩
            have hr82 := hr81 (by omega)
            have hO4 := hO3.only hg4 hgl
            have hf4 := only_trans hf3 hg4
            obtain ⟨⟨u, hu⟩, hz⟩ := hO4.slot (k := m) (j := 2) rfl hm (by decide)
            have hu' : w4.cell? ⟨go, m * 3 + 2, none⟩ = some u := hu
            have hz' : w4.frozen? ⟨go, m * 3 + 2, none⟩ = false := hz
            clear hu hz hr81 hg4 hO3 hf3 hR3
            go_wp2
            go_ret
            exact ⟨_, cs.set m ⟨c.node, c.prio, r8 * 4 - 1⟩, rfl, hO4.set cc_len (j := 2) rfl HC.out (by decide) rfl, by simpa using hn1, only_setCell hf4 (.inr hgo1) _⟩
          · have hb2 : (r7 == 1) = false := by simp [h1]
            by_cases h2 : r7 = 2
            · subst h2
              go_wp2_with fail
              refine (pick_any bs g (p1 + 1 + 1) _ _ hR3 (by omega)).mono ?_
              rintro e w4 ⟨r8, rfl, ⟨hr80, hr81⟩, hR4, hg4⟩
              have hr82 := hr81 (by omega)
              have hO4 := hO3.only hg4 hgl
              have hf4 := only_trans hf3 hg4
              obtain ⟨⟨u, hu⟩, hz⟩ := hO4.slot (k := m) (j := 0) rfl hm (by decide)
              have hu' : w4.cell? ⟨go, m * 3, none⟩ = some u := hu
              have hz' : w4.frozen? ⟨go, m * 3, none⟩ = false := hz
              clear hu hz hr81 hg4 hO3 hf3 hR3
              go_wp2
              go_ret
              exact ⟨_, cs.set m ⟨r8 - 1, c.prio, c.claim⟩, rfl, hO4.set cc_len (j := 0) rfl HC.out (by decide) rfl, by simpa using hn1, only_setCell hf4 (.inr hgo1) _⟩
            · have hb3 : (r7 == 2) = false := by simp [h2]
              clear h0 h1 h2
              go_wp2
              go_ret
              exact ⟨_, cs, rfl, hO3, hn1, hf3⟩
end Go.Proofs.Ytkldfjlgphapeaa
