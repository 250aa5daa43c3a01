/- Contracts of the small functions on routes. Conditions: each is said at its theorem. -/
import Derived.Test.YtlkchocjldllgaaIn
import Derived.Test.YtlkchocjldllgaaBase2
import Derived.Laws.BitsAllLaws
import Derived.Laws.BitsLemmas
namespace Go.Proofs.Ytlkchocjldllgaa
open Go.RowKit

structure Rt where
  pre : Int
  bits : Int
  hop : Int
structure Tab where
  routes : List Rt
  hops : List Int

def rc (r : Rt) : List Value := [.int .i64 r.pre, .int .i64 r.bits, .int .i64 r.hop]
theorem rc_len (r : Rt) : (rc r).length = 3 := rfl
theorem rc_one (c : Rt) : ∀ u ∈ rc c, u.oneCell' = true := by
  intro u hu
  simp only [rc, List.mem_cons, List.not_mem_nil, or_false] at hu
  rcases hu with rfl | rfl | rfl <;> rfl
theorem ic_one (n : Int) : ∀ u ∈ ic n, u.oneCell' = true := by
  intro u hu
  simp only [ic, List.mem_cons, List.not_mem_nil, or_false] at hu
  subst hu
  rfl
theorem routeAt {w : World} {b off k : Nat} {cs : List Rt} {c : Rt} (h : RowsAt rc 3 w b off cs) (hk : cs[k]? = some c) :
    w.cell? ⟨b, off + k * 3, none⟩ = some (.int .i64 c.pre) ∧ w.cell? ⟨b, off + k * 3 + 1, none⟩ = some (.int .i64 c.bits) ∧ w.cell? ⟨b, off + k * 3 + 2, none⟩ = some (.int .i64 c.hop) :=
  ⟨h k c hk 0 _ rfl, h k c hk 1 _ rfl, h k c hk 2 _ rfl⟩
theorem intAt {w : World} {b off k : Nat} {cs : List Int} {c : Int} (h : RowsAt ic 1 w b off cs) (hk : cs[k]? = some c) : w.cell? ⟨b, off + k, none⟩ = some (.int .i64 c) := rowAt1 h hk rfl

theorem Try.infoR : (Try.prog.info? 40).map (fun i => (i.zero, i.size, i.bytes)) = some (some (.agg #[.int .i64 0, .int .i64 0, .int .i64 0]), 3, 24) := by kernel_rfl
theorem Try.infoI : (Try.prog.info? 3).map (fun i => (i.zero, i.size, i.bytes)) = some (some (.int .i64 0), 1, 8) := by kernel_rfl

theorem new3_0 (w : World) (a b c : Value) (t : TypeId) : (w.alloc (.cells #[a, b, c] t)).cell? ⟨w.heap.size, 0, none⟩ = some a := (Blk.new w t #[a, b, c]).cell 0
theorem new3_1 (w : World) (a b c : Value) (t : TypeId) : (w.alloc (.cells #[a, b, c] t)).cell? ⟨w.heap.size, 1, none⟩ = some b := (Blk.new w t #[a, b, c]).cell 1
theorem new3_2 (w : World) (a b c : Value) (t : TypeId) : (w.alloc (.cells #[a, b, c] t)).cell? ⟨w.heap.size, 2, none⟩ = some c := (Blk.new w t #[a, b, c]).cell 2
/-- The table value v reads as t. -/
def TbR (w : World) (B : Nat) (v : Value) (t : Tab) : Prop := ∃ v1 v2, v = .agg #[v1, v2] ∧ SlR rc 3 w B v1 t.routes ∧ SlR ic 1 w B v2 t.hops
theorem TbR.up {w w' : World} {v : Value} {t : Tab} (h : TbR w w.heap.size v t) (hb : Below w.heap.size w w') : TbR w' w'.heap.size v t := by
  obtain ⟨v1, v2, rfl, h1, h2⟩ := h
  exact ⟨v1, v2, rfl, h1.up hb, h2.up hb⟩

/-- The size of the block of addresses. -/
def low (b : Int) : Int := if b = 0 then 256 else if b = 1 then 128 else if b = 2 then 64 else if b = 3 then 32 else if b = 4 then 16 else if b = 5 then 8 else if b = 6 then 4 else if b = 7 then 2 else 1
theorem low_pos (b : Int) : 1 ≤ low b ∧ low b ≤ 256 := by
  unfold low
  repeat' split
  all_goals omega
theorem nine {b : Int} (h : 0 ≤ b ∧ b ≤ 8) : b = 0 ∨ b = 1 ∨ b = 2 ∨ b = 3 ∨ b = 4 ∨ b = 5 ∨ b = 6 ∨ b = 7 ∨ b = 8 := by omega
def RV (r : Rt) (h : Int) : Prop := (0 ≤ r.bits ∧ r.bits ≤ 8) ∧ (0 ≤ r.pre ∧ r.pre ≤ 255) ∧ r.pre % low r.bits = 0 ∧ (0 ≤ r.hop ∧ r.hop ≤ h - 1)
/-- Route r matches address a. -/
def Mt (r : Rt) (a : Int) : Prop := a / low r.bits = r.pre / low r.bits
def Rl (a b : Rt) : Prop := a.pre < b.pre ∨ (a.pre = b.pre ∧ a.bits < b.bits)

theorem low_any (b : Int) (w : World) (h : 0 ≤ b ∧ b ≤ 8) : Calls Try.prog 76 #[.int .i64 b] w fun e w' => e = .returned (.int .i64 (low b)) ∧ w' = w := by
  obtain ⟨h0, h8⟩ := h
  obtain ⟨n, rfl⟩ := Int.eq_ofNat_of_zero_le h0
  have step : ∀ k : Nat, k < 8 → low ((k : Int) + 1) = low k / 2 := by
    intro k hk
    match k, hk with
    | 0, _ => rfl
    | 1, _ => rfl
    | 2, _ => rfl
    | 3, _ => rfl
    | 4, _ => rfl
    | 5, _ => rfl
    | 6, _ => rfl
    | 7, _ => rfl
  have HS := hide step
  clear step
  go_enter Try.func76, Try.ntmps76
  go_wp2
  go_loopg [3, 4] (n) (fun gg lv iv wr => ∃ (k : Nat) (l : Int), k + gg = n ∧ iv = .int .i64 k ∧ lv = .int .i64 l ∧ 1 ≤ l ∧ l ≤ 256 ∧ Hid (l = low k) ∧ wr = w)
  case atStart => exact ⟨0, 256, by omega, rfl, rfl, by omega, by omega, hide rfl, rfl⟩
  case round =>
    obtain ⟨k, l, hk, rfl, rfl, hl1, hl2, HL, hw⟩ := hrel
    subst hw
    by_cases hlt : k < n
    · have hs := HS.out k (by omega)
      have hp := low_pos ((k : Int) + 1)
      rw [hs, ← HL.out] at hp
      have HS' := hide hs
      clear hs
      go_wp2
      go_roundg (gk - 1)
      case measure => omega
      case rel => exact ⟨k + 1, l / 2, by omega, by go_num, rfl, hp.1, hp.2, hide (by rw [HL.out, ← HS'.out]; rfl), rfl⟩
    · have hkn : k = n := by omega
      have hl := HL.out
      rw [hkn] at hl
      clear HL HS
      subst hl
      go_wp2
      go_ret
      exact ⟨rfl, rfl⟩

theorem beq_tb {x y : Int} {p : Prop} (h : p ↔ x = y) : (x == y) = tb p := by
  by_cases hxy : x = y
  · rw [tb_yes (h.2 hxy)]; simp [hxy]
  · rw [tb_no (fun h' => hxy (h.1 h'))]; simp [hxy]

theorem mt_any (r : Rt) (a : Int) (w : World) (h : 0 ≤ r.bits ∧ r.bits ≤ 8) (ha : 0 ≤ a ∧ a ≤ 255) (hp : 0 ≤ r.pre ∧ r.pre ≤ 255) :
    Calls Try.prog 60 #[.agg #[.int .i64 r.pre, .int .i64 r.bits, .int .i64 r.hop], .int .i64 a] w fun e w' => e = .returned (.bool (tb (Mt r a))) ∧ Below w.heap.size w w' := by
  obtain ⟨p, b, hop⟩ := r
  unfold Mt
  simp only at h hp ⊢
  obtain ⟨ha0, ha1⟩ := ha
  obtain ⟨hp0, hp1⟩ := hp
  rcases nine h with rfl | rfl | rfl | rfl | rfl | rfl | rfl | rfl | rfl
  all_goals
    clear h
    go_enter Try.func60, Try.ntmps60
    go_wp2
    go_ret
    refine ⟨ret_bool (beq_tb ?_), below1 _ _⟩
    simp [low]

theorem ofInt_i64' (a : Nat) (ha : a < 9223372036854775808) : (BitVec.ofInt 64 (a : Int)).toNat = a := by
  rw [BitVec.ofInt_natCast, BitVec.toNat_ofNat]; exact Nat.mod_eq_of_lt (by omega)
theorem and_low (p : Int) (k : Nat) (h0 : 0 ≤ p) (h1 : p ≤ 255) (hk : k ≤ 8) : bits .and .i64 p ((2 ^ k - 1 : Nat) : Int) = p % ((2 ^ k : Nat) : Int) := by
  obtain ⟨a, rfl⟩ := Int.eq_ofNat_of_zero_le h0
  have hpow : 2 ^ k ≤ 2 ^ 8 := Nat.pow_le_pow_right (by omega) hk
  have h256 : (2 : Nat) ^ 8 = 256 := rfl
  show IntKind.i64.wrap ((BitVec.ofInt 64 (a : Int) &&& BitVec.ofInt 64 ((2 ^ k - 1 : Nat) : Int)).toNat : Int) = _
  rw [BitVec.toNat_and, ofInt_i64' a (by omega), ofInt_i64' _ (by omega), Nat.and_two_pow_sub_one_eq_mod, IntKind.wrap_i64]
  have : a % 2 ^ k ≤ a := Nat.mod_le _ _
  omega

set_option maxHeartbeats 3200000 in
theorem routeValid_any (r : Rt) (h : Int) (w : World) (hh : 0 ≤ h ∧ h ≤ 9223372036854775807) :
    Calls Try.prog 55 #[.agg #[.int .i64 r.pre, .int .i64 r.bits, .int .i64 r.hop], .int .i64 h] w fun e w' => e = .returned (.bool (tb (RV r h))) ∧ Below w.heap.size w w' := by
  obtain ⟨hh0, hh1⟩ := hh
  by_cases h1 : 0 ≤ r.bits ∧ r.bits ≤ 8
  · by_cases h2 : 0 ≤ r.pre ∧ r.pre ≤ 255
    · obtain ⟨p, b, hop⟩ := r
      unfold RV
      simp only at h1 h2 ⊢
      have HH1 := hide h1
      rcases nine h1 with rfl | rfl | rfl | rfl | rfl | rfl | rfl | rfl | rfl
      · have ha := and_low p 8 h2.1 h2.2 (by omega)
        simp only [Nat.reducePow, Nat.reduceSub, Int.cast_ofNat_Int] at ha
        clear h1
        have hmt : tb (Mt ⟨p, 0, hop⟩ p) = true := tb_yes rfl
        by_cases h3 : p % 256 = 0
        · have hb : (p % 256 == 0) = true := by simp [h3]
          have H3 := hide h3
          clear h3
          by_cases h4 : 0 ≤ hop ∧ hop ≤ h - 1
          · rw [tb_yes ⟨HH1.out, h2, H3.out, h4⟩]
            go_enter Try.func55, Try.ntmps55
            go_wp2_with (first | (go_at_call 54; refine (within_t _ _ _ _ ?_).mono ?_; (first | omega | (exfalso; omega)); rintro e w1 ⟨rfl, rfl⟩) | (go_at_call 54; refine (within_f _ _ _ _ ?_).mono ?_; omega; rintro e w1 ⟨rfl, rfl⟩) | (go_at_call 60; refine (mt_any ⟨p, _, hop⟩ p _ HH1.out h2 h2).mono ?_; rintro e w1 ⟨rfl, hb1⟩; rw [hmt]; have hbb := (below1 w _).trans (hb1.mono (by simp)); have d0 := (hb1.cell (p := ⟨w.heap.size, 0, none⟩) (by simp)).trans (new3_0 _ _ _ _ _); have d1 := (hb1.cell (p := ⟨w.heap.size, 1, none⟩) (by simp)).trans (new3_1 _ _ _ _ _); have d2 := (hb1.cell (p := ⟨w.heap.size, 2, none⟩) (by simp)).trans (new3_2 _ _ _ _ _)))
            go_ret
            exact ⟨rfl, by assumption⟩
          · rw [tb_no fun h => h4 h.2.2.2]
            go_enter Try.func55, Try.ntmps55
            go_wp2_with (first | (go_at_call 54; refine (within_t _ _ _ _ ?_).mono ?_; (first | omega | (exfalso; omega)); rintro e w1 ⟨rfl, rfl⟩) | (go_at_call 54; refine (within_f _ _ _ _ ?_).mono ?_; omega; rintro e w1 ⟨rfl, rfl⟩) | (go_at_call 60; refine (mt_any ⟨p, _, hop⟩ p _ HH1.out h2 h2).mono ?_; rintro e w1 ⟨rfl, hb1⟩; rw [hmt]; have hbb := (below1 w _).trans (hb1.mono (by simp)); have d0 := (hb1.cell (p := ⟨w.heap.size, 0, none⟩) (by simp)).trans (new3_0 _ _ _ _ _); have d1 := (hb1.cell (p := ⟨w.heap.size, 1, none⟩) (by simp)).trans (new3_1 _ _ _ _ _); have d2 := (hb1.cell (p := ⟨w.heap.size, 2, none⟩) (by simp)).trans (new3_2 _ _ _ _ _)))
            go_ret
            exact ⟨rfl, by assumption⟩
        · have hb : (p % 256 == 0) = false := by simp [h3]
          rw [tb_no fun h => h3 h.2.2.1]
          have H3 := hide h3
          clear h3
          go_enter Try.func55, Try.ntmps55
          go_wp2_with (first | (go_at_call 54; refine (within_t _ _ _ _ ?_).mono ?_; (first | omega | (exfalso; omega)); rintro e w1 ⟨rfl, rfl⟩) | (go_at_call 54; refine (within_f _ _ _ _ ?_).mono ?_; omega; rintro e w1 ⟨rfl, rfl⟩) | (go_at_call 60; refine (mt_any ⟨p, _, hop⟩ p _ HH1.out h2 h2).mono ?_; rintro e w1 ⟨rfl, hb1⟩; rw [hmt]; have hbb := (below1 w _).trans (hb1.mono (by simp)); have d0 := (hb1.cell (p := ⟨w.heap.size, 0, none⟩) (by simp)).trans (new3_0 _ _ _ _ _); have d1 := (hb1.cell (p := ⟨w.heap.size, 1, none⟩) (by simp)).trans (new3_1 _ _ _ _ _); have d2 := (hb1.cell (p := ⟨w.heap.size, 2, none⟩) (by simp)).trans (new3_2 _ _ _ _ _)))
          go_ret
          exact ⟨rfl, by assumption⟩
      · have ha := and_low p 7 h2.1 h2.2 (by omega)
        simp only [Nat.reducePow, Nat.reduceSub, Int.cast_ofNat_Int] at ha
        clear h1
        have hmt : tb (Mt ⟨p, 1, hop⟩ p) = true := tb_yes rfl
        by_cases h3 : p % 128 = 0
        · have hb : (p % 128 == 0) = true := by simp [h3]
          have H3 := hide h3
          clear h3
          by_cases h4 : 0 ≤ hop ∧ hop ≤ h - 1
          · rw [tb_yes ⟨HH1.out, h2, H3.out, h4⟩]
            go_enter Try.func55, Try.ntmps55
            go_wp2_with (first | (go_at_call 54; refine (within_t _ _ _ _ ?_).mono ?_; (first | omega | (exfalso; omega)); rintro e w1 ⟨rfl, rfl⟩) | (go_at_call 54; refine (within_f _ _ _ _ ?_).mono ?_; omega; rintro e w1 ⟨rfl, rfl⟩) | (go_at_call 60; refine (mt_any ⟨p, _, hop⟩ p _ HH1.out h2 h2).mono ?_; rintro e w1 ⟨rfl, hb1⟩; rw [hmt]; have hbb := (below1 w _).trans (hb1.mono (by simp)); have d0 := (hb1.cell (p := ⟨w.heap.size, 0, none⟩) (by simp)).trans (new3_0 _ _ _ _ _); have d1 := (hb1.cell (p := ⟨w.heap.size, 1, none⟩) (by simp)).trans (new3_1 _ _ _ _ _); have d2 := (hb1.cell (p := ⟨w.heap.size, 2, none⟩) (by simp)).trans (new3_2 _ _ _ _ _)))
            go_ret
            exact ⟨rfl, by assumption⟩
          · rw [tb_no fun h => h4 h.2.2.2]
            go_enter Try.func55, Try.ntmps55
            go_wp2_with (first | (go_at_call 54; refine (within_t _ _ _ _ ?_).mono ?_; (first | omega | (exfalso; omega)); rintro e w1 ⟨rfl, rfl⟩) | (go_at_call 54; refine (within_f _ _ _ _ ?_).mono ?_; omega; rintro e w1 ⟨rfl, rfl⟩) | (go_at_call 60; refine (mt_any ⟨p, _, hop⟩ p _ HH1.out h2 h2).mono ?_; rintro e w1 ⟨rfl, hb1⟩; rw [hmt]; have hbb := (below1 w _).trans (hb1.mono (by simp)); have d0 := (hb1.cell (p := ⟨w.heap.size, 0, none⟩) (by simp)).trans (new3_0 _ _ _ _ _); have d1 := (hb1.cell (p := ⟨w.heap.size, 1, none⟩) (by simp)).trans (new3_1 _ _ _ _ _); have d2 := (hb1.cell (p := ⟨w.heap.size, 2, none⟩) (by simp)).trans (new3_2 _ _ _ _ _)))
            go_ret
            exact ⟨rfl, by assumption⟩
        · have hb : (p % 128 == 0) = false := by simp [h3]
          rw [tb_no fun h => h3 h.2.2.1]
          have H3 := hide h3
          clear h3
          go_enter Try.func55, Try.ntmps55
          go_wp2_with (first | (go_at_call 54; refine (within_t _ _ _ _ ?_).mono ?_; (first | omega | (exfalso; omega)); rintro e w1 ⟨rfl, rfl⟩) | (go_at_call 54; refine (within_f _ _ _ _ ?_).mono ?_; omega; rintro e w1 ⟨rfl, rfl⟩) | (go_at_call 60; refine (mt_any ⟨p, _, hop⟩ p _ HH1.out h2 h2).mono ?_; rintro e w1 ⟨rfl, hb1⟩; rw [hmt]; have hbb := (below1 w _).trans (hb1.mono (by simp)); have d0 := (hb1.cell (p := ⟨w.heap.size, 0, none⟩) (by simp)).trans (new3_0 _ _ _ _ _); have d1 := (hb1.cell (p := ⟨w.heap.size, 1, none⟩) (by simp)).trans (new3_1 _ _ _ _ _); have d2 := (hb1.cell (p := ⟨w.heap.size, 2, none⟩) (by simp)).trans (new3_2 _ _ _ _ _)))
          go_ret
          exact ⟨rfl, by assumption⟩
      · have ha := and_low p 6 h2.1 h2.2 (by omega)
        simp only [Nat.reducePow, Nat.reduceSub, Int.cast_ofNat_Int] at ha
        clear h1
        have hmt : tb (Mt ⟨p, 2, hop⟩ p) = true := tb_yes rfl
        by_cases h3 : p % 64 = 0
        · have hb : (p % 64 == 0) = true := by simp [h3]
          have H3 := hide h3
          clear h3
          by_cases h4 : 0 ≤ hop ∧ hop ≤ h - 1
          · rw [tb_yes ⟨HH1.out, h2, H3.out, h4⟩]
            go_enter Try.func55, Try.ntmps55
            go_wp2_with (first | (go_at_call 54; refine (within_t _ _ _ _ ?_).mono ?_; (first | omega | (exfalso; omega)); rintro e w1 ⟨rfl, rfl⟩) | (go_at_call 54; refine (within_f _ _ _ _ ?_).mono ?_; omega; rintro e w1 ⟨rfl, rfl⟩) | (go_at_call 60; refine (mt_any ⟨p, _, hop⟩ p _ HH1.out h2 h2).mono ?_; rintro e w1 ⟨rfl, hb1⟩; rw [hmt]; have hbb := (below1 w _).trans (hb1.mono (by simp)); have d0 := (hb1.cell (p := ⟨w.heap.size, 0, none⟩) (by simp)).trans (new3_0 _ _ _ _ _); have d1 := (hb1.cell (p := ⟨w.heap.size, 1, none⟩) (by simp)).trans (new3_1 _ _ _ _ _); have d2 := (hb1.cell (p := ⟨w.heap.size, 2, none⟩) (by simp)).trans (new3_2 _ _ _ _ _)))
            go_ret
            exact ⟨rfl, by assumption⟩
          · rw [tb_no fun h => h4 h.2.2.2]
            go_enter Try.func55, Try.ntmps55
            go_wp2_with (first | (go_at_call 54; refine (within_t _ _ _ _ ?_).mono ?_; (first | omega | (exfalso; omega)); rintro e w1 ⟨rfl, rfl⟩) | (go_at_call 54; refine (within_f _ _ _ _ ?_).mono ?_; omega; rintro e w1 ⟨rfl, rfl⟩) | (go_at_call 60; refine (mt_any ⟨p, _, hop⟩ p _ HH1.out h2 h2).mono ?_; rintro e w1 ⟨rfl, hb1⟩; rw [hmt]; have hbb := (below1 w _).trans (hb1.mono (by simp)); have d0 := (hb1.cell (p := ⟨w.heap.size, 0, none⟩) (by simp)).trans (new3_0 _ _ _ _ _); have d1 := (hb1.cell (p := ⟨w.heap.size, 1, none⟩) (by simp)).trans (new3_1 _ _ _ _ _); have d2 := (hb1.cell (p := ⟨w.heap.size, 2, none⟩) (by simp)).trans (new3_2 _ _ _ _ _)))
            go_ret
            exact ⟨rfl, by assumption⟩
        · have hb : (p % 64 == 0) = false := by simp [h3]
          rw [tb_no fun h => h3 h.2.2.1]
          have H3 := hide h3
          clear h3
          go_enter Try.func55, Try.ntmps55
          go_wp2_with (first | (go_at_call 54; refine (within_t _ _ _ _ ?_).mono ?_; (first | omega | (exfalso; omega)); rintro e w1 ⟨rfl, rfl⟩) | (go_at_call 54; refine (within_f _ _ _ _ ?_).mono ?_; omega; rintro e w1 ⟨rfl, rfl⟩) | (go_at_call 60; refine (mt_any ⟨p, _, hop⟩ p _ HH1.out h2 h2).mono ?_; rintro e w1 ⟨rfl, hb1⟩; rw [hmt]; have hbb := (below1 w _).trans (hb1.mono (by simp)); have d0 := (hb1.cell (p := ⟨w.heap.size, 0, none⟩) (by simp)).trans (new3_0 _ _ _ _ _); have d1 := (hb1.cell (p := ⟨w.heap.size, 1, none⟩) (by simp)).trans (new3_1 _ _ _ _ _); have d2 := (hb1.cell (p := ⟨w.heap.size, 2, none⟩) (by simp)).trans (new3_2 _ _ _ _ _)))
          go_ret
          exact ⟨rfl, by assumption⟩
      · have ha := and_low p 5 h2.1 h2.2 (by omega)
        simp only [Nat.reducePow, Nat.reduceSub, Int.cast_ofNat_Int] at ha
        clear h1
        have hmt : tb (Mt ⟨p, 3, hop⟩ p) = true := tb_yes rfl
        by_cases h3 : p % 32 = 0
        · have hb : (p % 32 == 0) = true := by simp [h3]
          have H3 := hide h3
          clear h3
          by_cases h4 : 0 ≤ hop ∧ hop ≤ h - 1
          · rw [tb_yes ⟨HH1.out, h2, H3.out, h4⟩]
            go_enter Try.func55, Try.ntmps55
            go_wp2_with (first | (go_at_call 54; refine (within_t _ _ _ _ ?_).mono ?_; (first | omega | (exfalso; omega)); rintro e w1 ⟨rfl, rfl⟩) | (go_at_call 54; refine (within_f _ _ _ _ ?_).mono ?_; omega; rintro e w1 ⟨rfl, rfl⟩) | (go_at_call 60; refine (mt_any ⟨p, _, hop⟩ p _ HH1.out h2 h2).mono ?_; rintro e w1 ⟨rfl, hb1⟩; rw [hmt]; have hbb := (below1 w _).trans (hb1.mono (by simp)); have d0 := (hb1.cell (p := ⟨w.heap.size, 0, none⟩) (by simp)).trans (new3_0 _ _ _ _ _); have d1 := (hb1.cell (p := ⟨w.heap.size, 1, none⟩) (by simp)).trans (new3_1 _ _ _ _ _); have d2 := (hb1.cell (p := ⟨w.heap.size, 2, none⟩) (by simp)).trans (new3_2 _ _ _ _ _)))
            go_ret
            exact ⟨rfl, by assumption⟩
          · rw [tb_no fun h => h4 h.2.2.2]
            go_enter Try.func55, Try.ntmps55
            go_wp2_with (first | (go_at_call 54; refine (within_t _ _ _ _ ?_).mono ?_; (first | omega | (exfalso; omega)); rintro e w1 ⟨rfl, rfl⟩) | (go_at_call 54; refine (within_f _ _ _ _ ?_).mono ?_; omega; rintro e w1 ⟨rfl, rfl⟩) | (go_at_call 60; refine (mt_any ⟨p, _, hop⟩ p _ HH1.out h2 h2).mono ?_; rintro e w1 ⟨rfl, hb1⟩; rw [hmt]; have hbb := (below1 w _).trans (hb1.mono (by simp)); have d0 := (hb1.cell (p := ⟨w.heap.size, 0, none⟩) (by simp)).trans (new3_0 _ _ _ _ _); have d1 := (hb1.cell (p := ⟨w.heap.size, 1, none⟩) (by simp)).trans (new3_1 _ _ _ _ _); have d2 := (hb1.cell (p := ⟨w.heap.size, 2, none⟩) (by simp)).trans (new3_2 _ _ _ _ _)))
            go_ret
            exact ⟨rfl, by assumption⟩
        · have hb : (p % 32 == 0) = false := by simp [h3]
          rw [tb_no fun h => h3 h.2.2.1]
          have H3 := hide h3
          clear h3
          go_enter Try.func55, Try.ntmps55
          go_wp2_with (first | (go_at_call 54; refine (within_t _ _ _ _ ?_).mono ?_; (first | omega | (exfalso; omega)); rintro e w1 ⟨rfl, rfl⟩) | (go_at_call 54; refine (within_f _ _ _ _ ?_).mono ?_; omega; rintro e w1 ⟨rfl, rfl⟩) | (go_at_call 60; refine (mt_any ⟨p, _, hop⟩ p _ HH1.out h2 h2).mono ?_; rintro e w1 ⟨rfl, hb1⟩; rw [hmt]; have hbb := (below1 w _).trans (hb1.mono (by simp)); have d0 := (hb1.cell (p := ⟨w.heap.size, 0, none⟩) (by simp)).trans (new3_0 _ _ _ _ _); have d1 := (hb1.cell (p := ⟨w.heap.size, 1, none⟩) (by simp)).trans (new3_1 _ _ _ _ _); have d2 := (hb1.cell (p := ⟨w.heap.size, 2, none⟩) (by simp)).trans (new3_2 _ _ _ _ _)))
          go_ret
          exact ⟨rfl, by assumption⟩
      · have ha := and_low p 4 h2.1 h2.2 (by omega)
        simp only [Nat.reducePow, Nat.reduceSub, Int.cast_ofNat_Int] at ha
        clear h1
        have hmt : tb (Mt ⟨p, 4, hop⟩ p) = true := tb_yes rfl
        by_cases h3 : p % 16 = 0
        · have hb : (p % 16 == 0) = true := by simp [h3]
          have H3 := hide h3
          clear h3
          by_cases h4 : 0 ≤ hop ∧ hop ≤ h - 1
          · rw [tb_yes ⟨HH1.out, h2, H3.out, h4⟩]
            go_enter Try.func55, Try.ntmps55
            go_wp2_with (first | (go_at_call 54; refine (within_t _ _ _ _ ?_).mono ?_; (first | omega | (exfalso; omega)); rintro e w1 ⟨rfl, rfl⟩) | (go_at_call 54; refine (within_f _ _ _ _ ?_).mono ?_; omega; rintro e w1 ⟨rfl, rfl⟩) | (go_at_call 60; refine (mt_any ⟨p, _, hop⟩ p _ HH1.out h2 h2).mono ?_; rintro e w1 ⟨rfl, hb1⟩; rw [hmt]; have hbb := (below1 w _).trans (hb1.mono (by simp)); have d0 := (hb1.cell (p := ⟨w.heap.size, 0, none⟩) (by simp)).trans (new3_0 _ _ _ _ _); have d1 := (hb1.cell (p := ⟨w.heap.size, 1, none⟩) (by simp)).trans (new3_1 _ _ _ _ _); have d2 := (hb1.cell (p := ⟨w.heap.size, 2, none⟩) (by simp)).trans (new3_2 _ _ _ _ _)))
            go_ret
            exact ⟨rfl, by assumption⟩
          · rw [tb_no fun h => h4 h.2.2.2]
            go_enter Try.func55, Try.ntmps55
            go_wp2_with (first | (go_at_call 54; refine (within_t _ _ _ _ ?_).mono ?_; (first | omega | (exfalso; omega)); rintro e w1 ⟨rfl, rfl⟩) | (go_at_call 54; refine (within_f _ _ _ _ ?_).mono ?_; omega; rintro e w1 ⟨rfl, rfl⟩) | (go_at_call 60; refine (mt_any ⟨p, _, hop⟩ p _ HH1.out h2 h2).mono ?_; rintro e w1 ⟨rfl, hb1⟩; rw [hmt]; have hbb := (below1 w _).trans (hb1.mono (by simp)); have d0 := (hb1.cell (p := ⟨w.heap.size, 0, none⟩) (by simp)).trans (new3_0 _ _ _ _ _); have d1 := (hb1.cell (p := ⟨w.heap.size, 1, none⟩) (by simp)).trans (new3_1 _ _ _ _ _); have d2 := (hb1.cell (p := ⟨w.heap.size, 2, none⟩) (by simp)).trans (new3_2 _ _ _ _ _)))
            go_ret
            exact ⟨rfl, by assumption⟩
        · have hb : (p % 16 == 0) = false := by simp [h3]
          rw [tb_no fun h => h3 h.2.2.1]
          have H3 := hide h3
          clear h3
          go_enter Try.func55, Try.ntmps55
          go_wp2_with (first | (go_at_call 54; refine (within_t _ _ _ _ ?_).mono ?_; (first | omega | (exfalso; omega)); rintro e w1 ⟨rfl, rfl⟩) | (go_at_call 54; refine (within_f _ _ _ _ ?_).mono ?_; omega; rintro e w1 ⟨rfl, rfl⟩) | (go_at_call 60; refine (mt_any ⟨p, _, hop⟩ p _ HH1.out h2 h2).mono ?_; rintro e w1 ⟨rfl, hb1⟩; rw [hmt]; have hbb := (below1 w _).trans (hb1.mono (by simp)); have d0 := (hb1.cell (p := ⟨w.heap.size, 0, none⟩) (by simp)).trans (new3_0 _ _ _ _ _); have d1 := (hb1.cell (p := ⟨w.heap.size, 1, none⟩) (by simp)).trans (new3_1 _ _ _ _ _); have d2 := (hb1.cell (p := ⟨w.heap.size, 2, none⟩) (by simp)).trans (new3_2 _ _ _ _ _)))
          go_ret
          exact ⟨rfl, by assumption⟩
      · have ha := and_low p 3 h2.1 h2.2 (by omega)
        simp only [Nat.reducePow, Nat.reduceSub, Int.cast_ofNat_Int] at ha
        clear h1
        have hmt : tb (Mt ⟨p, 5, hop⟩ p) = true := tb_yes rfl
        by_cases h3 : p % 8 = 0
        · have hb : (p % 8 == 0) = true := by simp [h3]
          have H3 := hide h3
          clear h3
          by_cases h4 : 0 ≤ hop ∧ hop ≤ h - 1
          · rw [tb_yes ⟨HH1.out, h2, H3.out, h4⟩]
            go_enter Try.func55, Try.ntmps55
            go_wp2_with (first | (go_at_call 54; refine (within_t _ _ _ _ ?_).mono ?_; (first | omega | (exfalso; omega)); rintro e w1 ⟨rfl, rfl⟩) | (go_at_call 54; refine (within_f _ _ _ _ ?_).mono ?_; omega; rintro e w1 ⟨rfl, rfl⟩) | (go_at_call 60; refine (mt_any ⟨p, _, hop⟩ p _ HH1.out h2 h2).mono ?_; rintro e w1 ⟨rfl, hb1⟩; rw [hmt]; have hbb := (below1 w _).trans (hb1.mono (by simp)); have d0 := (hb1.cell (p := ⟨w.heap.size, 0, none⟩) (by simp)).trans (new3_0 _ _ _ _ _); have d1 := (hb1.cell (p := ⟨w.heap.size, 1, none⟩) (by simp)).trans (new3_1 _ _ _ _ _); have d2 := (hb1.cell (p := ⟨w.heap.size, 2, none⟩) (by simp)).trans (new3_2 _ _ _ _ _)))
            go_ret
            exact ⟨rfl, by assumption⟩
          · rw [tb_no fun h => h4 h.2.2.2]
            go_enter Try.func55, Try.ntmps55
            go_wp2_with (first | (go_at_call 54; refine (within_t _ _ _ _ ?_).mono ?_; (first | omega | (exfalso; omega)); rintro e w1 ⟨rfl, rfl⟩) | (go_at_call 54; refine (within_f _ _ _ _ ?_).mono ?_; omega; rintro e w1 ⟨rfl, rfl⟩) | (go_at_call 60; refine (mt_any ⟨p, _, hop⟩ p _ HH1.out h2 h2).mono ?_; rintro e w1 ⟨rfl, hb1⟩; rw [hmt]; have hbb := (below1 w _).trans (hb1.mono (by simp)); have d0 := (hb1.cell (p := ⟨w.heap.size, 0, none⟩) (by simp)).trans (new3_0 _ _ _ _ _); have d1 := (hb1.cell (p := ⟨w.heap.size, 1, none⟩) (by simp)).trans (new3_1 _ _ _ _ _); have d2 := (hb1.cell (p := ⟨w.heap.size, 2, none⟩) (by simp)).trans (new3_2 _ _ _ _ _)))
            go_ret
            exact ⟨rfl, by assumption⟩
        · have hb : (p % 8 == 0) = false := by simp [h3]
          rw [tb_no fun h => h3 h.2.2.1]
          have H3 := hide h3
          clear h3
          go_enter Try.func55, Try.ntmps55
          go_wp2_with (first | (go_at_call 54; refine (within_t _ _ _ _ ?_).mono ?_; (first | omega | (exfalso; omega)); rintro e w1 ⟨rfl, rfl⟩) | (go_at_call 54; refine (within_f _ _ _ _ ?_).mono ?_; omega; rintro e w1 ⟨rfl, rfl⟩) | (go_at_call 60; refine (mt_any ⟨p, _, hop⟩ p _ HH1.out h2 h2).mono ?_; rintro e w1 ⟨rfl, hb1⟩; rw [hmt]; have hbb := (below1 w _).trans (hb1.mono (by simp)); have d0 := (hb1.cell (p := ⟨w.heap.size, 0, none⟩) (by simp)).trans (new3_0 _ _ _ _ _); have d1 := (hb1.cell (p := ⟨w.heap.size, 1, none⟩) (by simp)).trans (new3_1 _ _ _ _ _); have d2 := (hb1.cell (p := ⟨w.heap.size, 2, none⟩) (by simp)).trans (new3_2 _ _ _ _ _)))
          go_ret
          exact ⟨rfl, by assumption⟩
      · have ha := and_low p 2 h2.1 h2.2 (by omega)
        simp only [Nat.reducePow, Nat.reduceSub, Int.cast_ofNat_Int] at ha
        clear h1
        have hmt : tb (Mt ⟨p, 6, hop⟩ p) = true := tb_yes rfl
        by_cases h3 : p % 4 = 0
        · have hb : (p % 4 == 0) = true := by simp [h3]
          have H3 := hide h3
          clear h3
          by_cases h4 : 0 ≤ hop ∧ hop ≤ h - 1
          · rw [tb_yes ⟨HH1.out, h2, H3.out, h4⟩]
            go_enter Try.func55, Try.ntmps55
            go_wp2_with (first | (go_at_call 54; refine (within_t _ _ _ _ ?_).mono ?_; (first | omega | (exfalso; omega)); rintro e w1 ⟨rfl, rfl⟩) | (go_at_call 54; refine (within_f _ _ _ _ ?_).mono ?_; omega; rintro e w1 ⟨rfl, rfl⟩) | (go_at_call 60; refine (mt_any ⟨p, _, hop⟩ p _ HH1.out h2 h2).mono ?_; rintro e w1 ⟨rfl, hb1⟩; rw [hmt]; have hbb := (below1 w _).trans (hb1.mono (by simp)); have d0 := (hb1.cell (p := ⟨w.heap.size, 0, none⟩) (by simp)).trans (new3_0 _ _ _ _ _); have d1 := (hb1.cell (p := ⟨w.heap.size, 1, none⟩) (by simp)).trans (new3_1 _ _ _ _ _); have d2 := (hb1.cell (p := ⟨w.heap.size, 2, none⟩) (by simp)).trans (new3_2 _ _ _ _ _)))
            go_ret
            exact ⟨rfl, by assumption⟩
          · rw [tb_no fun h => h4 h.2.2.2]
            go_enter Try.func55, Try.ntmps55
            go_wp2_with (first | (go_at_call 54; refine (within_t _ _ _ _ ?_).mono ?_; (first | omega | (exfalso; omega)); rintro e w1 ⟨rfl, rfl⟩) | (go_at_call 54; refine (within_f _ _ _ _ ?_).mono ?_; omega; rintro e w1 ⟨rfl, rfl⟩) | (go_at_call 60; refine (mt_any ⟨p, _, hop⟩ p _ HH1.out h2 h2).mono ?_; rintro e w1 ⟨rfl, hb1⟩; rw [hmt]; have hbb := (below1 w _).trans (hb1.mono (by simp)); have d0 := (hb1.cell (p := ⟨w.heap.size, 0, none⟩) (by simp)).trans (new3_0 _ _ _ _ _); have d1 := (hb1.cell (p := ⟨w.heap.size, 1, none⟩) (by simp)).trans (new3_1 _ _ _ _ _); have d2 := (hb1.cell (p := ⟨w.heap.size, 2, none⟩) (by simp)).trans (new3_2 _ _ _ _ _)))
            go_ret
            exact ⟨rfl, by assumption⟩
        · have hb : (p % 4 == 0) = false := by simp [h3]
          rw [tb_no fun h => h3 h.2.2.1]
          have H3 := hide h3
          clear h3
          go_enter Try.func55, Try.ntmps55
          go_wp2_with (first | (go_at_call 54; refine (within_t _ _ _ _ ?_).mono ?_; (first | omega | (exfalso; omega)); rintro e w1 ⟨rfl, rfl⟩) | (go_at_call 54; refine (within_f _ _ _ _ ?_).mono ?_; omega; rintro e w1 ⟨rfl, rfl⟩) | (go_at_call 60; refine (mt_any ⟨p, _, hop⟩ p _ HH1.out h2 h2).mono ?_; rintro e w1 ⟨rfl, hb1⟩; rw [hmt]; have hbb := (below1 w _).trans (hb1.mono (by simp)); have d0 := (hb1.cell (p := ⟨w.heap.size, 0, none⟩) (by simp)).trans (new3_0 _ _ _ _ _); have d1 := (hb1.cell (p := ⟨w.heap.size, 1, none⟩) (by simp)).trans (new3_1 _ _ _ _ _); have d2 := (hb1.cell (p := ⟨w.heap.size, 2, none⟩) (by simp)).trans (new3_2 _ _ _ _ _)))
          go_ret
          exact ⟨rfl, by assumption⟩
      · have ha := and_low p 1 h2.1 h2.2 (by omega)
        simp only [Nat.reducePow, Nat.reduceSub, Int.cast_ofNat_Int] at ha
        clear h1
        have hmt : tb (Mt ⟨p, 7, hop⟩ p) = true := tb_yes rfl
        by_cases h3 : p % 2 = 0
        · have hb : (p % 2 == 0) = true := by simp [h3]
          have H3 := hide h3
          clear h3
          by_cases h4 : 0 ≤ hop ∧ hop ≤ h - 1
          · rw [tb_yes ⟨HH1.out, h2, H3.out, h4⟩]
            go_enter Try.func55, Try.ntmps55
            go_wp2_with (first | (go_at_call 54; refine (within_t _ _ _ _ ?_).mono ?_; (first | omega | (exfalso; omega)); rintro e w1 ⟨rfl, rfl⟩) | (go_at_call 54; refine (within_f _ _ _ _ ?_).mono ?_; omega; rintro e w1 ⟨rfl, rfl⟩) | (go_at_call 60; refine (mt_any ⟨p, _, hop⟩ p _ HH1.out h2 h2).mono ?_; rintro e w1 ⟨rfl, hb1⟩; rw [hmt]; have hbb := (below1 w _).trans (hb1.mono (by simp)); have d0 := (hb1.cell (p := ⟨w.heap.size, 0, none⟩) (by simp)).trans (new3_0 _ _ _ _ _); have d1 := (hb1.cell (p := ⟨w.heap.size, 1, none⟩) (by simp)).trans (new3_1 _ _ _ _ _); have d2 := (hb1.cell (p := ⟨w.heap.size, 2, none⟩) (by simp)).trans (new3_2 _ _ _ _ _)))
            go_ret
            exact ⟨rfl, by assumption⟩
          · rw [tb_no fun h => h4 h.2.2.2]
            go_enter Try.func55, Try.ntmps55
            go_wp2_with (first | (go_at_call 54; refine (within_t _ _ _ _ ?_).mono ?_; (first | omega | (exfalso; omega)); rintro e w1 ⟨rfl, rfl⟩) | (go_at_call 54; refine (within_f _ _ _ _ ?_).mono ?_; omega; rintro e w1 ⟨rfl, rfl⟩) | (go_at_call 60; refine (mt_any ⟨p, _, hop⟩ p _ HH1.out h2 h2).mono ?_; rintro e w1 ⟨rfl, hb1⟩; rw [hmt]; have hbb := (below1 w _).trans (hb1.mono (by simp)); have d0 := (hb1.cell (p := ⟨w.heap.size, 0, none⟩) (by simp)).trans (new3_0 _ _ _ _ _); have d1 := (hb1.cell (p := ⟨w.heap.size, 1, none⟩) (by simp)).trans (new3_1 _ _ _ _ _); have d2 := (hb1.cell (p := ⟨w.heap.size, 2, none⟩) (by simp)).trans (new3_2 _ _ _ _ _)))
            go_ret
            exact ⟨rfl, by assumption⟩
        · have hb : (p % 2 == 0) = false := by simp [h3]
          rw [tb_no fun h => h3 h.2.2.1]
          have H3 := hide h3
          clear h3
          go_enter Try.func55, Try.ntmps55
          go_wp2_with (first | (go_at_call 54; refine (within_t _ _ _ _ ?_).mono ?_; (first | omega | (exfalso; omega)); rintro e w1 ⟨rfl, rfl⟩) | (go_at_call 54; refine (within_f _ _ _ _ ?_).mono ?_; omega; rintro e w1 ⟨rfl, rfl⟩) | (go_at_call 60; refine (mt_any ⟨p, _, hop⟩ p _ HH1.out h2 h2).mono ?_; rintro e w1 ⟨rfl, hb1⟩; rw [hmt]; have hbb := (below1 w _).trans (hb1.mono (by simp)); have d0 := (hb1.cell (p := ⟨w.heap.size, 0, none⟩) (by simp)).trans (new3_0 _ _ _ _ _); have d1 := (hb1.cell (p := ⟨w.heap.size, 1, none⟩) (by simp)).trans (new3_1 _ _ _ _ _); have d2 := (hb1.cell (p := ⟨w.heap.size, 2, none⟩) (by simp)).trans (new3_2 _ _ _ _ _)))
          go_ret
          exact ⟨rfl, by assumption⟩
      · have ha := and_low p 0 h2.1 h2.2 (by omega)
        simp only [Nat.reducePow, Nat.reduceSub, Int.cast_ofNat_Int] at ha
        clear h1
        have hmt : tb (Mt ⟨p, 8, hop⟩ p) = true := tb_yes rfl
        by_cases h3 : p % 1 = 0
        · have hb : (p % 1 == 0) = true := by simp [h3]
          have H3 := hide h3
          clear h3
          by_cases h4 : 0 ≤ hop ∧ hop ≤ h - 1
          · rw [tb_yes ⟨HH1.out, h2, H3.out, h4⟩]
            go_enter Try.func55, Try.ntmps55
            go_wp2_with (first | (go_at_call 54; refine (within_t _ _ _ _ ?_).mono ?_; (first | omega | (exfalso; omega)); rintro e w1 ⟨rfl, rfl⟩) | (go_at_call 54; refine (within_f _ _ _ _ ?_).mono ?_; omega; rintro e w1 ⟨rfl, rfl⟩) | (go_at_call 60; refine (mt_any ⟨p, _, hop⟩ p _ HH1.out h2 h2).mono ?_; rintro e w1 ⟨rfl, hb1⟩; rw [hmt]; have hbb := (below1 w _).trans (hb1.mono (by simp)); have d0 := (hb1.cell (p := ⟨w.heap.size, 0, none⟩) (by simp)).trans (new3_0 _ _ _ _ _); have d1 := (hb1.cell (p := ⟨w.heap.size, 1, none⟩) (by simp)).trans (new3_1 _ _ _ _ _); have d2 := (hb1.cell (p := ⟨w.heap.size, 2, none⟩) (by simp)).trans (new3_2 _ _ _ _ _)))
            go_ret
            exact ⟨rfl, by assumption⟩
          · rw [tb_no fun h => h4 h.2.2.2]
            go_enter Try.func55, Try.ntmps55
            go_wp2_with (first | (go_at_call 54; refine (within_t _ _ _ _ ?_).mono ?_; (first | omega | (exfalso; omega)); rintro e w1 ⟨rfl, rfl⟩) | (go_at_call 54; refine (within_f _ _ _ _ ?_).mono ?_; omega; rintro e w1 ⟨rfl, rfl⟩) | (go_at_call 60; refine (mt_any ⟨p, _, hop⟩ p _ HH1.out h2 h2).mono ?_; rintro e w1 ⟨rfl, hb1⟩; rw [hmt]; have hbb := (below1 w _).trans (hb1.mono (by simp)); have d0 := (hb1.cell (p := ⟨w.heap.size, 0, none⟩) (by simp)).trans (new3_0 _ _ _ _ _); have d1 := (hb1.cell (p := ⟨w.heap.size, 1, none⟩) (by simp)).trans (new3_1 _ _ _ _ _); have d2 := (hb1.cell (p := ⟨w.heap.size, 2, none⟩) (by simp)).trans (new3_2 _ _ _ _ _)))
            go_ret
            exact ⟨rfl, by assumption⟩
        · exact absurd (show p % 1 = 0 by omega) h3
    · have HH1 := hide h1
      have HH2 := hide h2
      have hno : tb (RV r h) = false := tb_no fun h => HH2.out h.2.1
      rw [hno]
      clear hno
      go_enter Try.func55, Try.ntmps55
      go_wp2_with (first | (go_at_call 54; refine (within_t _ _ _ _ ?_).mono ?_; (first | omega | (exfalso; omega)); rintro e w1 ⟨rfl, rfl⟩) | (go_at_call 54; refine (within_f _ _ _ _ ?_).mono ?_; omega; rintro e w1 ⟨rfl, rfl⟩) | (go_at_call 60; refine (mt_any ⟨p, _, hop⟩ p _ HH1.out h2 h2).mono ?_; rintro e w1 ⟨rfl, hb1⟩; rw [hmt]; have hbb := (below1 w _).trans (hb1.mono (by simp)); have d0 := (hb1.cell (p := ⟨w.heap.size, 0, none⟩) (by simp)).trans (new3_0 _ _ _ _ _); have d1 := (hb1.cell (p := ⟨w.heap.size, 1, none⟩) (by simp)).trans (new3_1 _ _ _ _ _); have d2 := (hb1.cell (p := ⟨w.heap.size, 2, none⟩) (by simp)).trans (new3_2 _ _ _ _ _)))
      go_ret
      exact ⟨rfl, below1 _ _⟩
  · have HH1 := hide h1
    have hno : tb (RV r h) = false := tb_no fun h => HH1.out h.1
    rw [hno]
    clear hno
    go_enter Try.func55, Try.ntmps55
    go_wp2_with (first | (go_at_call 54; refine (within_t _ _ _ _ ?_).mono ?_; (first | omega | (exfalso; omega)); rintro e w1 ⟨rfl, rfl⟩) | (go_at_call 54; refine (within_f _ _ _ _ ?_).mono ?_; omega; rintro e w1 ⟨rfl, rfl⟩) | (go_at_call 60; refine (mt_any ⟨p, _, hop⟩ p _ HH1.out h2 h2).mono ?_; rintro e w1 ⟨rfl, hb1⟩; rw [hmt]; have hbb := (below1 w _).trans (hb1.mono (by simp)); have d0 := (hb1.cell (p := ⟨w.heap.size, 0, none⟩) (by simp)).trans (new3_0 _ _ _ _ _); have d1 := (hb1.cell (p := ⟨w.heap.size, 1, none⟩) (by simp)).trans (new3_1 _ _ _ _ _); have d2 := (hb1.cell (p := ⟨w.heap.size, 2, none⟩) (by simp)).trans (new3_2 _ _ _ _ _)))
    go_ret
    exact ⟨rfl, below1 _ _⟩

set_option maxHeartbeats 800000 in
theorem l23Route_any (r : Rt) (h : Int) (w : World) (hh : 0 ≤ h ∧ h ≤ 9223372036854775807) :
    Calls Try.prog 50 #[.agg #[.int .i64 r.pre, .int .i64 r.bits, .int .i64 r.hop], .int .i64 h] w fun e w' => e = .returned (.bool (tb (RV r h))) ∧ Below w.heap.size w w' := by
  obtain ⟨hh0, hh1⟩ := hh
  have f0 := new3_0 w (.int .i64 r.pre) (.int .i64 r.bits) (.int .i64 r.hop) 40
  have f1 := new3_1 w (.int .i64 r.pre) (.int .i64 r.bits) (.int .i64 r.hop) 40
  have f2 := new3_2 w (.int .i64 r.pre) (.int .i64 r.bits) (.int .i64 r.hop) 40
  have hb1 := below1 w (.cells #[.int .i64 r.pre, .int .i64 r.bits, .int .i64 r.hop] 40)
  have hlp := low_pos r.bits
  go_enter Try.func50, Try.ntmps50
  go_upto_region 1 with fail
  obtain ⟨wd, hwd⟩ : ∃ wd, wd = w.alloc (.cells #[.int .i64 r.pre, .int .i64 r.bits, .int .i64 r.hop] 40) := ⟨_, rfl⟩
  rw [← hwd] at f0 f1 f2 hb1
  rw [← hwd]
  clear hwd
  have e0 := fun x => wext_cell wd x f0
  have e1 := fun x => wext_cell wd x f1
  have e2 := fun x => wext_cell wd x f2
  by_cases h1 : 0 ≤ r.bits ∧ r.bits ≤ 8
  · by_cases h2 : 0 ≤ r.pre ∧ r.pre ≤ 255
    · by_cases h3 : r.pre % low r.bits = 0
      · have hq : (r.pre % low r.bits == 0) = true := by simp [h3]
        have H3 := hide h3
        clear h3
        by_cases h4 : 0 ≤ r.hop ∧ r.hop ≤ h - 1
        · have HR : Hid (tb (RV r h) = true) := hide (tb_yes ⟨h1, h2, H3.out, h4⟩)
          refine region_q (by kernel_rfl) (by kernel_rfl) ?_
          repeat (go_big_quiet_step ((first | (go_at_call 49; refine q_same (l6In_t _ _ _ _ ?_); omega) | (go_at_call 49; refine q_same (l6In_f _ _ _ _ ?_); omega) | (go_at_call 76; refine q_same (low_any _ _ ?_); omega))))
          refine wpQuiet_nil ?_
          intro wx hbx
          go_wp2
          go_ret
          exact ⟨ret_bool HR.out.symm, hb1.trans (hbx.mono hb1.size)⟩
        · have HR : Hid (tb (RV r h) = false) := hide (tb_no fun h => h4 h.2.2.2)
          refine region_q (by kernel_rfl) (by kernel_rfl) ?_
          repeat (go_big_quiet_step ((first | (go_at_call 49; refine q_same (l6In_t _ _ _ _ ?_); omega) | (go_at_call 49; refine q_same (l6In_f _ _ _ _ ?_); omega) | (go_at_call 76; refine q_same (low_any _ _ ?_); omega))))
          refine wpQuiet_nil ?_
          intro wx hbx
          go_wp2
          go_ret
          exact ⟨ret_bool HR.out.symm, hb1.trans (hbx.mono hb1.size)⟩
      · have HR : Hid (tb (RV r h) = false) := hide (tb_no fun h => h3 h.2.2.1)
        have hq : (r.pre % low r.bits == 0) = false := by simp [h3]
        have H3 := hide h3
        clear h3
        refine region_q (by kernel_rfl) (by kernel_rfl) ?_
        repeat (go_big_quiet_step ((first | (go_at_call 49; refine q_same (l6In_t _ _ _ _ ?_); omega) | (go_at_call 49; refine q_same (l6In_f _ _ _ _ ?_); omega) | (go_at_call 76; refine q_same (low_any _ _ ?_); omega))))
        refine wpQuiet_nil ?_
        intro wx hbx
        go_wp2
        go_ret
        exact ⟨ret_bool HR.out.symm, hb1.trans (hbx.mono hb1.size)⟩
    · have HR : Hid (tb (RV r h) = false) := hide (tb_no fun h => h2 h.2.1)
      refine region_q (by kernel_rfl) (by kernel_rfl) ?_
      repeat (go_big_quiet_step ((first | (go_at_call 49; refine q_same (l6In_t _ _ _ _ ?_); omega) | (go_at_call 49; refine q_same (l6In_f _ _ _ _ ?_); omega) | (go_at_call 76; refine q_same (low_any _ _ ?_); omega))))
      refine wpQuiet_nil ?_
      intro wx hbx
      go_wp2
      go_ret
      exact ⟨ret_bool HR.out.symm, hb1.trans (hbx.mono hb1.size)⟩
  · have HR : Hid (tb (RV r h) = false) := hide (tb_no fun h => h1 h.1)
    refine region_q (by kernel_rfl) (by kernel_rfl) ?_
    repeat (go_big_quiet_step ((first | (go_at_call 49; refine q_same (l6In_t _ _ _ _ ?_); omega) | (go_at_call 49; refine q_same (l6In_f _ _ _ _ ?_); omega) | (go_at_call 76; refine q_same (low_any _ _ ?_); omega))))
    refine wpQuiet_nil ?_
    intro wx hbx
    go_wp2
    go_ret
    exact ⟨ret_bool HR.out.symm, hb1.trans (hbx.mono hb1.size)⟩

theorem less_any (a b : Rt) (w : World) :
    Calls Try.prog 51 #[.agg #[.int .i64 a.pre, .int .i64 a.bits, .int .i64 a.hop], .agg #[.int .i64 b.pre, .int .i64 b.bits, .int .i64 b.hop]] w
      fun e w' => e = .returned (.bool (tb (Rl a b))) ∧ Below w.heap.size w w' := by
  by_cases h1 : a.pre < b.pre
  · rw [tb_yes (.inl h1)]
    go_enter Try.func51, Try.ntmps51
    go_wp2
    go_ret
    exact ⟨rfl, below2 _ _ _⟩
  · by_cases h2 : a.pre = b.pre
    · have hb : (a.pre == b.pre) = true := by simp [h2]
      have H2 := hide h2
      clear h2
      by_cases h3 : a.bits < b.bits
      · rw [tb_yes (.inr ⟨H2.out, h3⟩)]
        go_enter Try.func51, Try.ntmps51
        go_wp2
        go_ret
        exact ⟨rfl, below2 _ _ _⟩
      · rw [tb_no fun h => by rcases h with h | ⟨_, h⟩ <;> omega]
        go_enter Try.func51, Try.ntmps51
        go_wp2
        go_ret
        exact ⟨rfl, below2 _ _ _⟩
    · have hb : (a.pre == b.pre) = false := by simp [h2]
      rw [tb_no fun h => by rcases h with h | ⟨h, _⟩ <;> omega]
      have H2 := hide h2
      clear h2
      go_enter Try.func51, Try.ntmps51
      go_wp2
      go_ret
      exact ⟨rfl, below2 _ _ _⟩

theorem isNaN_any (n : Int) (w : World) : Calls Try.prog 84 #[.int .i64 n] w fun e w' => e = .returned (.bool false) ∧ w' = w := by
  have h : (n != n) = false := by simp
  go_enter Try.func84, Try.ntmps84
  go_wp2
  go_ret
  exact ⟨rfl, rfl⟩
/-- What cmp.Compare answers. -/
def cmpI (a b : Int) : Int := if a < b then -1 else if b < a then 1 else 0
theorem compare_any (a b : Int) (w : World) : Calls Try.prog 78 #[.int .i64 a, .int .i64 b] w fun e w' => e = .returned (.int .i64 (cmpI a b)) ∧ w' = w := by
  unfold cmpI
  by_cases h1 : a < b
  · rw [if_pos h1]
    go_enter Try.func78, Try.ntmps78
    go_wp2_with (go_at_call 84; refine (isNaN_any _ _).mono ?_; rintro e w1 ⟨rfl, rfl⟩)
    go_ret
    exact ⟨rfl, rfl⟩
  · rw [if_neg h1]
    by_cases h2 : b < a
    · rw [if_pos h2]
      go_enter Try.func78, Try.ntmps78
      go_wp2_with (go_at_call 84; refine (isNaN_any _ _).mono ?_; rintro e w1 ⟨rfl, rfl⟩)
      go_ret
      exact ⟨rfl, rfl⟩
    · rw [if_neg h2]
      go_enter Try.func78, Try.ntmps78
      go_wp2_with (go_at_call 84; refine (isNaN_any _ _).mono ?_; rintro e w1 ⟨rfl, rfl⟩)
      go_ret
      exact ⟨rfl, rfl⟩
end Go.Proofs.Ytlkchocjldllgaa
