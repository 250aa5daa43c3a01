/- The plain law of the election: the program's way and the reference's way come to the same speaker and backup, for valid candidates. No program is spoken of. Conditions: valid candidates. -/
import Derived.Test.YtkldfjlgphapeaaValid
namespace Go.Proofs.Ytkldfjlgphapeaa
open Go.RowKit

def better (acc : Option Cand) (c : Cand) : Prop := ∀ a, acc = some a → a.prio ≤ c.prio
open Classical in
/-- The best of those with q, the later of equals. -/
noncomputable def pb (q : Cand → Prop) : Option Cand → List Cand → Option Cand
  | acc, [] => acc
  | acc, c :: l => pb q (if q c ∧ better acc c then some c else acc) l
def nodeO : Option Cand → Int
  | none => -1
  | some c => c.node
def prioO : Option Cand → Int
  | none => 0
  | some c => c.prio
/-- Electable with at least a claim, other than one node. -/
def Q (claim ex : Int) (c : Cand) : Prop := 0 < c.prio ∧ claim ≤ c.claim ∧ c.node ≠ ex
noncomputable def elGo (cs : List Cand) (ex : Int) : Nat → Int → Int
  | 0, s => s
  | n + 1, s => if s < 0 then elGo cs ex n (nodeO (pb (Q n ex) none cs)) else s
noncomputable def spk (cs : List Cand) : Int := elGo cs (-1) 3 (-1)
noncomputable def bak (cs : List Cand) : Int := elGo cs (spk cs) 2 (-1)

theorem pb_congr {q q' : Cand → Prop} : ∀ {l : List Cand} {acc : Option Cand}, (∀ c, c ∈ l → (q c ↔ q' c)) → pb q acc l = pb q' acc l
  | [], _, _ => rfl
  | c :: l, acc, h => by
    simp only [pb]
    rw [propext (h c (List.mem_cons_self ..))]
    exact pb_congr fun c' hc => h c' (List.mem_cons_of_mem _ hc)

/-- What the best of some is. -/
theorem pb_spec {q : Cand → Prop} : ∀ {l : List Cand} {acc : Option Cand} {a : Cand}, pb q acc l = some a → (acc = some a ∨ (a ∈ l ∧ q a))
  | [], acc, a, h => .inl h
  | c :: l, acc, a, h => by
    simp only [pb] at h
    rcases pb_spec h with h1 | ⟨h1, h2⟩
    · split at h1
      · rename_i hc; cases h1; exact .inr ⟨List.mem_cons_self .., hc.1⟩
      · exact .inl h1
    · exact .inr ⟨List.mem_cons_of_mem _ h1, h2⟩
theorem pb_acc {q : Cand → Prop} : ∀ {l : List Cand} {acc : Option Cand}, acc ≠ none → pb q acc l ≠ none
  | [], _, h => h
  | c :: l, acc, h => by
    simp only [pb]
    apply pb_acc
    split
    · simp
    · exact h
theorem pb_none {q : Cand → Prop} : ∀ {l : List Cand} {acc : Option Cand}, pb q acc l = none → acc = none ∧ ∀ c, c ∈ l → ¬ q c
  | [], _, h => ⟨h, fun c hc => by cases hc⟩
  | c :: l, acc, h => by
    simp only [pb] at h
    obtain ⟨h1, h2⟩ := pb_none h
    by_cases hc : q c ∧ better acc c
    · rw [if_pos hc] at h1; cases h1
    · rw [if_neg hc] at h1
      refine ⟨h1, fun c' hc' => ?_⟩
      rcases List.mem_cons.1 hc' with h3 | h3
      · subst h3
        intro hq
        exact hc ⟨hq, fun a ha => by rw [h1] at ha; cases ha⟩
      · exact h2 c' h3
theorem pb_no {q : Cand → Prop} {l : List Cand} (h : ∀ c, c ∈ l → ¬ q c) : pb q none l = none := by
  cases hp : pb q none l with
  | none => rfl
  | some a =>
    rcases pb_spec hp with h1 | ⟨h1, h2⟩
    · cases h1
    · exact absurd h2 (h a h1)
theorem pb_some {q : Cand → Prop} {l : List Cand} {c : Cand} (hc : c ∈ l) (hq : q c) : ∃ a, pb q none l = some a ∧ a ∈ l ∧ q a := by
  cases hp : pb q none l with
  | none => exact absurd hq ((pb_none hp).2 c hc)
  | some a =>
    rcases pb_spec hp with h1 | h1
    · cases h1
    · exact ⟨a, rfl, h1⟩

theorem valid_mem {cs : List Cand} (h : Valid cs) {c : Cand} (hc : c ∈ cs) : (0 ≤ c.node ∧ c.node ≤ 7) ∧ (0 ≤ c.prio ∧ c.prio ≤ 9) ∧ (0 ≤ c.claim ∧ c.claim ≤ 2) := by
  obtain ⟨i, hi⟩ := List.getElem?_of_mem hc
  have h1 := h i c hi
  unfold badAt at h1
  refine ⟨?_, ?_, ?_⟩
  · exact Classical.byContradiction fun h2 => h1 (.inl h2)
  · exact Classical.byContradiction fun h2 => h1 (.inr (.inl h2))
  · exact Classical.byContradiction fun h2 => h1 (.inr (.inr (.inl h2)))

theorem nodeO_some {cs : List Cand} (h : Valid cs) {q : Cand → Prop} {a : Cand} (hp : pb q none cs = some a) : 0 ≤ nodeO (pb q none cs) := by
  rw [hp]
  rcases pb_spec hp with h1 | ⟨h1, _⟩
  · cases h1
  · exact (valid_mem h h1).1.1

/-! ### The program's way -/
/-- The greatest claim of those that can be elected. -/
def great (g : Int) : List Cand → Int
  | [] => g
  | c :: l => great (if 0 < c.prio then max g c.claim else g) l
theorem great_ge : ∀ {l : List Cand} {g : Int}, g ≤ great g l
  | [], _ => Int.le_refl _
  | c :: l, g => by
    simp only [great]
    refine Int.le_trans ?_ great_ge
    split <;> omega
theorem great_mem : ∀ {l : List Cand} {g : Int} {c : Cand}, c ∈ l → 0 < c.prio → c.claim ≤ great g l
  | [], _, _, h, _ => by cases h
  | d :: l, g, c, h, hp => by
    simp only [great]
    rcases List.mem_cons.1 h with h1 | h1
    · subst h1
      rw [if_pos hp]
      exact Int.le_trans (by omega) great_ge
    · exact great_mem h1 hp
theorem great_is : ∀ {l : List Cand} {g : Int}, great g l = g ∨ ∃ c, c ∈ l ∧ 0 < c.prio ∧ c.claim = great g l
  | [], _ => .inl rfl
  | d :: l, g => by
    simp only [great]
    rcases great_is (l := l) (g := if 0 < d.prio then max g d.claim else g) with h | ⟨c, h1, h2, h3⟩
    · by_cases hp : 0 < d.prio
      · rw [if_pos hp] at h ⊢
        by_cases hm : d.claim ≤ g
        · exact .inl (by omega)
        · exact .inr ⟨d, List.mem_cons_self .., hp, by omega⟩
      · rw [if_neg hp] at h ⊢
        exact .inl h
    · exact .inr ⟨c, List.mem_cons_of_mem _ h1, h2, h3⟩

noncomputable def spk' (cs : List Cand) : Int := nodeO (pb (fun c => 0 < c.prio ∧ c.claim = great 0 cs) none cs)
noncomputable def bak1 (cs : List Cand) : Int := nodeO (pb (fun c => 0 < c.prio ∧ (c.node ≠ spk cs ∧ c.claim ≠ 0)) none cs)
noncomputable def bak2 (cs : List Cand) : Int := nodeO (pb (fun c => 0 < c.prio ∧ c.node ≠ spk cs) none cs)

theorem spk_eq {cs : List Cand} (h : Valid cs) : spk' cs = spk cs := by
  have hcl : ∀ c, c ∈ cs → 0 < c.prio → c.claim ≤ great 0 cs := fun c hc hp => great_mem hc hp
  have hg0 : 0 ≤ great 0 cs := great_ge
  have hq : ∀ n : Nat, great 0 cs = n → pb (Q n (-1)) none cs = pb (fun c => 0 < c.prio ∧ c.claim = great 0 cs) none cs := fun n hn => pb_congr fun c hc => by
    have hv := valid_mem h hc
    constructor
    · rintro ⟨h1, h2, _⟩
      exact ⟨h1, by have := hcl c hc h1; omega⟩
    · rintro ⟨h1, h2⟩
      exact ⟨h1, by omega, by omega⟩
  have hno : ∀ n : Nat, great 0 cs < n → pb (Q n (-1)) none cs = none := fun n hn => pb_no fun c hc hq => by
    have := hcl c hc hq.1
    have := hq.2.1
    omega
  have hle : great 0 cs ≤ 2 := by
    rcases great_is (l := cs) (g := 0) with h1 | ⟨c, h1, _, h3⟩
    · omega
    · have := (valid_mem h h1).2.2.2; omega
  unfold spk' spk
  rcases great_is (l := cs) (g := 0) with h0 | ⟨c, h1, h2, h3⟩
  · -- nobody has a claim
    have e2 := hno 2 (by omega)
    have e1 := hno 1 (by omega)
    have e0 := hq 0 (by omega)
    simp only [elGo]
    rw [if_pos (by omega), e2, if_pos (by simp [nodeO]), e1, if_pos (by simp [nodeO]), e0]
  · have hs : ∀ n : Nat, great 0 cs = n → ¬ (nodeO (pb (Q n (-1)) none cs) < 0) := fun n hn => by
      obtain ⟨a, ha, _⟩ := pb_some (q := Q n (-1)) h1 ⟨h2, by omega, by have := valid_mem h h1; omega⟩
      have := nodeO_some h ha
      omega
    have hcase : great 0 cs = 0 ∨ great 0 cs = 1 ∨ great 0 cs = 2 := by omega
    rcases hcase with hG | hG | hG
    · have e2 := hno 2 (by omega)
      have e1 := hno 1 (by omega)
      have e0 := hq 0 (by omega)
      simp only [elGo]
      rw [if_pos (by omega), e2, if_pos (by simp [nodeO]), e1, if_pos (by simp [nodeO]), e0]
    · have e2 := hno 2 (by omega)
      have e1 := hq 1 (by omega)
      simp only [elGo]
      rw [if_pos (by omega), e2, if_pos (by simp [nodeO]), if_neg (hs 1 (by omega)), e1]
    · have e2 := hq 2 (by omega)
      simp only [elGo]
      rw [if_pos (by omega), if_neg (hs 2 (by omega)), e2]

theorem bak_eq {cs : List Cand} (h : Valid cs) : bak cs = if bak1 cs < 0 then bak2 cs else bak1 cs := by
  have e1 : pb (Q (1 : Nat) (spk cs)) none cs = pb (fun c => 0 < c.prio ∧ (c.node ≠ spk cs ∧ c.claim ≠ 0)) none cs := pb_congr fun c hc => by
    have hv := valid_mem h hc
    constructor
    · rintro ⟨h1, h2, h3⟩; exact ⟨h1, h3, by omega⟩
    · rintro ⟨h1, h2, h3⟩; exact ⟨h1, by omega, h2⟩
  have e0 : pb (Q (0 : Nat) (spk cs)) none cs = pb (fun c => 0 < c.prio ∧ c.node ≠ spk cs) none cs := pb_congr fun c hc => by
    have hv := valid_mem h hc
    constructor
    · rintro ⟨h1, h2, h3⟩; exact ⟨h1, h3⟩
    · rintro ⟨h1, h2⟩; exact ⟨h1, by omega, h2⟩
  unfold bak bak1 bak2
  simp only [elGo]
  rw [if_pos (by omega), e1, e0]
end Go.Proofs.Ytkldfjlgphapeaa
