/- The plain laws of the election: who is elected, and what becomes of an election that has been applied. No program is spoken of. Conditions: valid candidates. -/
import Derived.Test.YtkldfjlgphapeaaElectP
namespace Go.Proofs.Ytkldfjlgphapeaa
open Go.RowKit

theorem valid_step {cs : List Cand} (h : Valid cs) {i : Nat} {a b : Cand} (ha : cs[i]? = some a) (hb : cs[i+1]? = some b) : a.node < b.node := by
  have h1 := h (i + 1) b hb
  unfold badAt at h1
  exact Classical.byContradiction fun h2 => h1 (.inr (.inr (.inr ⟨a, by omega, by simpa using ha, by omega⟩)))
theorem valid_lt {cs : List Cand} (h : Valid cs) : ∀ (d i : Nat) {a b : Cand}, cs[i]? = some a → cs[i + d + 1]? = some b → a.node < b.node
  | 0, i, a, b, ha, hb => valid_step h ha hb
  | d + 1, i, a, b, ha, hb => by
    obtain ⟨c, hc⟩ := get_some (l := cs) (i := i + d + 1) (by have := get_lt hb; omega)
    have h1 := valid_lt h d i ha hc
    have h2 := valid_step h hc (b := b) (by rw [show i + d + 1 + 1 = i + (d + 1) + 1 from by omega]; exact hb)
    omega
theorem valid_pw {cs : List Cand} (h : Valid cs) : cs.Pairwise (fun a b => a.node < b.node) := by
  rw [List.pairwise_iff_getElem]
  intro i j hi hj hij
  obtain ⟨d, rfl⟩ : ∃ d, j = i + d + 1 := ⟨j - i - 1, by omega⟩
  exact valid_lt h d i (List.getElem?_eq_getElem hi) (List.getElem?_eq_getElem hj)
theorem pw_valid {cs : List Cand} (hp : cs.Pairwise (fun a b => a.node < b.node)) (h : ∀ c ∈ cs, (0 ≤ c.node ∧ c.node ≤ 7) ∧ (0 ≤ c.prio ∧ c.prio ≤ 9) ∧ (0 ≤ c.claim ∧ c.claim ≤ 2)) : Valid cs := by
  intro i c hc hbad
  have hm := h c (List.mem_of_getElem? hc)
  rcases hbad with h1 | h1 | h1 | ⟨p, h0, hp', h1⟩
  · exact h1 hm.1
  · exact h1 hm.2.1
  · exact h1 hm.2.2
  · rw [List.pairwise_iff_getElem] at hp
    have hi := get_lt hc
    have := hp (i - 1) i (by omega) hi (by omega)
    rw [List.getElem?_eq_getElem (by omega)] at hp'
    rw [List.getElem?_eq_getElem hi] at hc
    have e1 := Option.some.inj hp'
    have e2 := Option.some.inj hc
    rw [e1, e2] at this
    omega
theorem pw_node {cs : List Cand} (hp : cs.Pairwise (fun a b => a.node < b.node)) {a b : Cand} (ha : a ∈ cs) (hb : b ∈ cs) (h : a.node = b.node) : a = b := by
  obtain ⟨i, hi, rfl⟩ := List.getElem_of_mem ha
  obtain ⟨j, hj, rfl⟩ := List.getElem_of_mem hb
  rw [List.pairwise_iff_getElem] at hp
  rcases Nat.lt_trichotomy i j with h1 | h1 | h1
  · have := hp i j hi hj h1; omega
  · subst h1; rfl
  · have := hp j i hj hi h1; omega

/-- The best one is the best one. -/
theorem pb_max {q : Cand → Prop} : ∀ {l : List Cand} {acc : Option Cand} {a : Cand}, l.Pairwise (fun a b => a.node < b.node) → (∀ x, acc = some x → ∀ c ∈ l, x.node < c.node) → pb q acc l = some a →
    (∀ c ∈ l, q c → c.prio < a.prio ∨ (c.prio = a.prio ∧ c.node ≤ a.node)) ∧ (∀ x, acc = some x → x.prio < a.prio ∨ (x.prio = a.prio ∧ x.node ≤ a.node))
  | [], acc, a, _, _, h => ⟨fun c hc => (by cases hc), fun x hx => by
    simp only [pb] at h; rw [h] at hx; cases hx; exact .inr ⟨rfl, Int.le_refl _⟩⟩
  | d :: l, acc, a, hp, hacc, h => by
    simp only [pb] at h
    obtain ⟨hd, hp'⟩ := List.pairwise_cons.1 hp
    by_cases hc : q d ∧ better acc d
    · rw [if_pos hc] at h
      obtain ⟨h1, h2⟩ := pb_max hp' (fun x hx c hc' => by cases hx; exact hd c hc') h
      have hda := h2 d rfl
      refine ⟨fun c hc' hq => ?_, fun x hx => ?_⟩
      · rcases List.mem_cons.1 hc' with h3 | h3
        · subst h3; exact hda
        · exact h1 c h3 hq
      · have h3 := hc.2 x hx
        have h4 := hacc x hx d (List.mem_cons_self ..)
        rcases hda with h5 | ⟨h5, h6⟩
        · exact .inl (by omega)
        · by_cases h7 : x.prio < a.prio
          · exact .inl h7
          · exact .inr ⟨by omega, by omega⟩
    · rw [if_neg hc] at h
      obtain ⟨h1, h2⟩ := pb_max hp' (fun x hx c hc' => hacc x hx c (List.mem_cons_of_mem _ hc')) h
      refine ⟨fun c hc' hq => ?_, h2⟩
      rcases List.mem_cons.1 hc' with h3 | h3
      · subst h3
        have h4 : ∃ x, acc = some x ∧ ¬ x.prio ≤ c.prio := by
          apply Classical.byContradiction
          intro h5
          apply hc
          refine ⟨hq, fun x hx => ?_⟩
          apply Classical.byContradiction
          intro h6
          exact h5 ⟨x, hx, h6⟩
        obtain ⟨x, hx, h5⟩ := h4
        rcases h2 x hx with h6 | ⟨h6, _⟩
        · exact .inl (by omega)
        · exact .inl (by omega)
      · exact h1 c h3 hq

/-- Not better than s: a smaller claim, or the same and a smaller priority, or the same and a smaller number. -/
def NotBetter (c s : Cand) : Prop := c.claim < s.claim ∨ (c.claim = s.claim ∧ (c.prio < s.prio ∨ (c.prio = s.prio ∧ c.node ≤ s.node)))

theorem spk_char {cs : List Cand} (h : Valid cs) :
    (∃ s, s ∈ cs ∧ 0 < s.prio ∧ spk cs = s.node ∧ ∀ c ∈ cs, 0 < c.prio → NotBetter c s) ∨ (spk cs = -1 ∧ ∀ c ∈ cs, ¬ 0 < c.prio) := by
  rw [← spk_eq h]
  unfold spk'
  cases hp : pb (fun c => 0 < c.prio ∧ c.claim = great 0 cs) none cs with
  | none =>
    refine .inr ⟨rfl, fun c hc h0 => ?_⟩
    have hno := (pb_none hp).2
    rcases great_is (l := cs) (g := 0) with h1 | ⟨d, h1, h2, h3⟩
    · have := great_mem (g := 0) hc h0
      have := (valid_mem h hc).2.2.1
      exact hno c hc ⟨h0, by omega⟩
    · exact hno d h1 ⟨h2, h3⟩
  | some s =>
    rcases pb_spec hp with h1 | ⟨h1, h2, h3⟩
    · cases h1
    · refine .inl ⟨s, h1, h2, rfl, fun c hc h0 => ?_⟩
      have hle := great_mem (g := 0) hc h0
      by_cases he : c.claim = great 0 cs
      · exact .inr ⟨by omega, (pb_max (valid_pw h) (fun x hx => by cases hx) hp).1 c hc ⟨h0, he⟩⟩
      · exact .inl (by omega)
theorem bak_char {cs : List Cand} (h : Valid cs) :
    (∃ b, b ∈ cs ∧ 0 < b.prio ∧ b.node ≠ spk cs ∧ bak cs = b.node ∧ (b.claim = 0 → ∀ c ∈ cs, 0 < c.prio → c.node ≠ spk cs → c.claim = 0)) ∨ (bak cs = -1 ∧ ∀ c ∈ cs, 0 < c.prio → c.node = spk cs) := by
  rw [bak_eq h]
  unfold bak1 bak2
  cases hp : pb (fun c => 0 < c.prio ∧ (c.node ≠ spk cs ∧ c.claim ≠ 0)) none cs with
  | some b =>
    rcases pb_spec hp with h1 | ⟨h1, h2, h3, h4⟩
    · cases h1
    · have := (valid_mem h h1).1.1
      rw [if_neg (by simp only [nodeO]; omega)]
      exact .inl ⟨b, h1, h2, h3, rfl, fun h0 => absurd h0 h4⟩
  | none =>
    have hno := (pb_none hp).2
    rw [if_pos (by simp [nodeO])]
    cases hp2 : pb (fun c => 0 < c.prio ∧ c.node ≠ spk cs) none cs with
    | some b =>
      rcases pb_spec hp2 with h1 | ⟨h1, h2, h3⟩
      · cases h1
      · refine .inl ⟨b, h1, h2, h3, rfl, fun _ c hc h0 hne => ?_⟩
        exact Classical.byContradiction fun h5 => hno c hc ⟨h0, hne, h5⟩
    | none =>
      refine .inr ⟨rfl, fun c hc h0 => ?_⟩
      exact Classical.byContradiction fun h5 => (pb_none hp2).2 c hc ⟨h0, h5⟩

/-- Whoever alone has the greatest claim is the speaker. -/
theorem spk_is {cs : List Cand} (h : Valid cs) {s : Cand} (hs : s ∈ cs) (h0 : 0 < s.prio) (hmax : ∀ c ∈ cs, 0 < c.prio → c ≠ s → c.claim < s.claim) : spk cs = s.node := by
  rcases spk_char h with ⟨t, ht, ht0, hte, htm⟩ | ⟨_, hno⟩
  · by_cases he : s = t
    · rw [hte, he]
    · have h1 := hmax t ht ht0 (fun h => he h.symm)
      rcases htm s hs h0 with h2 | ⟨h2, _⟩
      · omega
      · omega
  · exact absurd h0 (hno s hs)
theorem spk_none {cs : List Cand} (h : Valid cs) (hno : ∀ c ∈ cs, ¬ 0 < c.prio) : spk cs = -1 := by
  rcases spk_char h with ⟨t, ht, ht0, _⟩ | ⟨h1, _⟩
  · exact absurd ht0 (hno t ht)
  · exact h1
/-- Whoever alone but for the speaker has a claim is the backup. -/
theorem bak_is {cs : List Cand} (h : Valid cs) {b : Cand} (hb : b ∈ cs) (h0 : 0 < b.prio) (hne : b.node ≠ spk cs) (hcl : b.claim ≠ 0) (hmax : ∀ c ∈ cs, 0 < c.prio → c ≠ b → c.node ≠ spk cs → c.claim = 0) : bak cs = b.node := by
  rw [bak_eq h]
  unfold bak1
  obtain ⟨a, ha, ham, ha0, ha1, ha2⟩ := pb_some (q := fun c => 0 < c.prio ∧ (c.node ≠ spk cs ∧ c.claim ≠ 0)) hb ⟨h0, hne, hcl⟩
  rw [ha]
  have he : a = b := Classical.byContradiction fun h5 => ha2 (hmax a ham ha0 h5 ha1)
  subst he
  rw [if_neg (by simp only [nodeO]; have := (valid_mem h ham).1.1; omega)]
  rfl
theorem bak_none {cs : List Cand} (h : Valid cs) (hno : ∀ c ∈ cs, 0 < c.prio → c.node = spk cs) : bak cs = -1 := by
  rcases bak_char h with ⟨t, ht, ht0, ht1, _⟩ | ⟨h1, _⟩
  · exact absurd (hno t ht ht0) ht1
  · exact h1

/-! ### Counting -/
def cnt : List Cand → Nat
  | [] => 0
  | c :: l => (if 0 < c.prio then 1 else 0) + cnt l
theorem cnt_zero : ∀ {l : List Cand}, cnt l = 0 ↔ ∀ c ∈ l, ¬ 0 < c.prio
  | [] => ⟨fun _ c hc => (by cases hc), fun _ => rfl⟩
  | d :: l => by
    simp only [cnt]
    by_cases h : 0 < d.prio
    · rw [if_pos h]
      exact ⟨fun h1 => by omega, fun h1 => absurd h (h1 d (List.mem_cons_self ..))⟩
    · rw [if_neg h, Nat.zero_add, cnt_zero]
      exact ⟨fun h1 c hc => by rcases List.mem_cons.1 hc with h2 | h2; (· subst h2; exact h); exact h1 c h2, fun h1 c hc => h1 c (List.mem_cons_of_mem _ hc)⟩
/-- At most one, if all that can be elected have one number. -/
theorem cnt_one : ∀ {l : List Cand} {n : Int}, l.Pairwise (fun a b => a.node < b.node) → (∀ c ∈ l, 0 < c.prio → c.node = n) → cnt l ≤ 1
  | [], _, _, _ => by simp [cnt]
  | d :: l, n, hp, h => by
    simp only [cnt]
    obtain ⟨hd, hp'⟩ := List.pairwise_cons.1 hp
    by_cases h0 : 0 < d.prio
    · have hz : cnt l = 0 := cnt_zero.2 fun c hc h1 => by
        have h2 := h d (List.mem_cons_self ..) h0
        have h3 := h c (List.mem_cons_of_mem _ hc) h1
        have h4 := hd c hc
        omega
      rw [if_pos h0]; omega
    · rw [if_neg h0]
      have := cnt_one hp' (fun c hc => h c (List.mem_cons_of_mem _ hc))
      omega
theorem cnt_two : ∀ {l : List Cand} {a b : Cand}, a ∈ l → b ∈ l → 0 < a.prio → 0 < b.prio → a.node ≠ b.node → 2 ≤ cnt l
  | [], _, _, h, _, _, _, _ => by cases h
  | d :: l, a, b, ha, hb, ha0, hb0, hne => by
    simp only [cnt]
    rcases List.mem_cons.1 ha with h1 | h1
    · subst h1
      rcases List.mem_cons.1 hb with h2 | h2
      · subst h2; exact absurd rfl hne
      · have : cnt l ≠ 0 := fun h => cnt_zero.1 h b h2 hb0
        rw [if_pos ha0]; omega
    · rcases List.mem_cons.1 hb with h2 | h2
      · subst h2
        have : cnt l ≠ 0 := fun h => cnt_zero.1 h a h1 ha0
        rw [if_pos hb0]; omega
      · have := cnt_two h1 h2 ha0 hb0 hne
        omega
theorem some_spk {cs : List Cand} (h : Valid cs) : 0 ≤ spk cs ↔ 1 ≤ cnt cs := by
  rcases spk_char h with ⟨s, hs, h0, he, _⟩ | ⟨he, hno⟩
  · have := (valid_mem h hs).1.1
    have hc : cnt cs ≠ 0 := fun hz => cnt_zero.1 hz s hs h0
    constructor <;> intro <;> omega
  · have hc := cnt_zero.2 hno
    constructor <;> intro <;> omega
theorem some_bak {cs : List Cand} (h : Valid cs) : 0 ≤ bak cs ↔ 2 ≤ cnt cs := by
  rcases bak_char h with ⟨b, hb, h0, hne, he, _⟩ | ⟨he, hno⟩
  · have := (valid_mem h hb).1.1
    rcases spk_char h with ⟨s, hs, hs0, hse, _⟩ | ⟨_, hno⟩
    · have := cnt_two hb hs h0 hs0 (by rw [← hse]; exact hne)
      constructor <;> intro <;> omega
    · exact absurd h0 (hno b hb)
  · have := cnt_one (valid_pw h) hno
    constructor <;> intro <;> omega
end Go.Proofs.Ytkldfjlgphapeaa
