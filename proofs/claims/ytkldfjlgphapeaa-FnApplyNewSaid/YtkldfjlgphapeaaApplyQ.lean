/- The plain laws of applying an election: the applied list is valid, elects the same, is its own; the backup takes over; a new candidate replaces nobody. No program is spoken of. -/
import Derived.Test.YtkldfjlgphapeaaElectQ
import Derived.Test.YtkldfjlgphapeaaApply
namespace Go.Proofs.Ytkldfjlgphapeaa
open Go.RowKit

theorem app_node (s t : Int) (c : Cand) : (apC s t c).node = c.node := rfl
theorem app_prio (s t : Int) (c : Cand) : (apC s t c).prio = c.prio := rfl
theorem app_app (s t : Int) (c : Cand) : apC s t (apC s t c) = apC s t c := rfl
/-- A list as an election left it. -/
structure App (out : List Cand) (s t : Int) : Prop where
  valid : Valid out
  spk : spk out = s
  bak : bak out = t
  fix : ∀ c ∈ out, apC s t c = c
  ne : 0 ≤ t → t ≠ s
theorem App.two {out : List Cand} {s t : Int} (h : App out s t) {c : Cand} (hc : c ∈ out) (hs : c.node = s) : c.claim = 2 := by
  have := h.fix c hc
  rw [apC_s hs] at this
  rw [← this]
theorem App.one {out : List Cand} {s t : Int} (h : App out s t) {c : Cand} (hc : c ∈ out) (hs : c.node ≠ s) (ht : c.node = t) : c.claim = 1 := by
  have := h.fix c hc
  rw [apC_b hs ht] at this
  rw [← this]
theorem App.zero {out : List Cand} {s t : Int} (h : App out s t) {c : Cand} (hc : c ∈ out) (hs : c.node ≠ s) (ht : c.node ≠ t) : c.claim = 0 := by
  have := h.fix c hc
  rw [apC_n hs ht] at this
  rw [← this]

theorem app_valid {cs : List Cand} (h : Valid cs) (s t : Int) : Valid (cs.map (apC s t)) := by
  refine pw_valid ?_ fun c hc => ?_
  · rw [List.pairwise_map]
    exact valid_pw h
  · obtain ⟨d, hd, rfl⟩ := List.mem_map.1 hc
    have := valid_mem h hd
    refine ⟨this.1, this.2.1, ?_⟩
    unfold apC
    dsimp only
    split
    · omega
    · split <;> omega

theorem app_spk {cs : List Cand} (h : Valid cs) (t : Int) : spk (cs.map (apC (spk cs) t)) = spk cs := by
  rcases spk_char h with ⟨sc, hsc, h0, he, _⟩ | ⟨he, hno⟩
  · have h1 := spk_is (app_valid h (spk cs) t) (s := apC (spk cs) t sc) (List.mem_map.2 ⟨sc, hsc, rfl⟩) h0 fun c hc hp hne => by
      obtain ⟨d, hd, rfl⟩ := List.mem_map.1 hc
      have hdn : d.node ≠ spk cs := fun hx => hne (by rw [pw_node (valid_pw h) hd hsc (hx.trans he)])
      rw [apC_s he.symm]
      by_cases ht : d.node = t
      · rw [apC_b hdn ht]; show (1 : Int) < 2; decide
      · rw [apC_n hdn ht]; show (0 : Int) < 2; decide
    rw [h1, he]; rfl
  · rw [he]
    refine spk_none (app_valid h _ _) fun c hc => ?_
    obtain ⟨d, hd, rfl⟩ := List.mem_map.1 hc
    exact hno d hd

theorem app_bak {cs : List Cand} (h : Valid cs) : bak (cs.map (apC (spk cs) (bak cs))) = bak cs := by
  have hsp := app_spk h (bak cs)
  rcases bak_char h with ⟨b, hb, h0, hne, he, _⟩ | ⟨he, hno⟩
  · have h1 := bak_is (app_valid h (spk cs) (bak cs)) (b := apC (spk cs) (bak cs) b) (List.mem_map.2 ⟨b, hb, rfl⟩) h0 (by rw [hsp]; exact hne) (by rw [apC_b hne he.symm]; show (1 : Int) ≠ 0; decide) fun c hc hp hcb hcs => by
      obtain ⟨d, hd, rfl⟩ := List.mem_map.1 hc
      rw [hsp] at hcs
      have hdt : d.node ≠ bak cs := fun hx => hcb (by rw [pw_node (valid_pw h) hd hb (hx.trans he)])
      rw [apC_n (show d.node ≠ spk cs from hcs) hdt]
    rw [h1, he]; rfl
  · refine (bak_none (app_valid h _ _) fun c hc hp => ?_).trans he.symm
    obtain ⟨d, hd, rfl⟩ := List.mem_map.1 hc
    rw [hsp]
    exact hno d hd hp

theorem app_of {cs : List Cand} (h : Valid cs) : App (cs.map (apC (spk cs) (bak cs))) (spk cs) (bak cs) :=
  ⟨app_valid h _ _, app_spk h _, app_bak h, fun c hc => by
    obtain ⟨d, hd, rfl⟩ := List.mem_map.1 hc
    exact app_app _ _ _, fun h0 hx => by
    rcases bak_char h with ⟨b, hb, _, hne, he, _⟩ | ⟨he, hno⟩
    · exact hne (he.symm.trans hx)
    · omega⟩
theorem App.stable {out : List Cand} {s t : Int} (h : App out s t) : appL out = out := by
  unfold appL
  rw [if_pos (show validB out = true from tb_yes h.valid), h.spk, h.bak]
  exact (List.map_congr_left (g := id) h.fix).trans (List.map_id _)

/-! ### The backup takes over -/
/-- All but node s. -/
noncomputable def noS (s : Int) (l : List Cand) : List Cand := open Classical in l.filter fun c => decide (c.node ≠ s)
theorem noS_mem {s : Int} {l : List Cand} {c : Cand} : c ∈ noS s l ↔ c ∈ l ∧ c.node ≠ s := by simp [noS]
theorem noS_snoc_in {s : Int} {l : List Cand} {c : Cand} (h : c.node ≠ s) : noS s (l ++ [c]) = noS s l ++ [c] := by
  unfold noS; rw [List.filter_append]; simp [h]
theorem noS_snoc_out {s : Int} {l : List Cand} {c : Cand} (h : c.node = s) : noS s (l ++ [c]) = noS s l := by
  unfold noS; rw [List.filter_append]; simp [h]
theorem App.rest_valid {out : List Cand} {s t : Int} (h : App out s t) : Valid (noS s out) :=
  pw_valid ((valid_pw h.valid).filter _) fun _ hc => valid_mem h.valid (noS_mem.1 hc).1
theorem App.rest_spk {out : List Cand} {s t : Int} (h : App out s t) : Go.Proofs.Ytkldfjlgphapeaa.spk (noS s out) = t := by
  have hv := h.rest_valid
  have hb := bak_char h.valid
  rw [h.spk, h.bak] at hb
  rcases hb with ⟨b, hb, h0, hne, he, _⟩ | ⟨he, hno⟩
  · rw [he]
    refine spk_is hv (noS_mem.2 ⟨hb, hne⟩) h0 fun c hc hp hcb => ?_
    obtain ⟨h1, h2⟩ := noS_mem.1 hc
    rw [h.one hb hne he.symm, h.zero h1 h2 fun hx => hcb (pw_node (valid_pw h.valid) h1 hb (hx.trans he))]
    decide
  · rw [he]
    refine spk_none hv fun c hc hp => ?_
    obtain ⟨h1, h2⟩ := noS_mem.1 hc
    exact h2 (hno c h1 hp)

/-! ### A new candidate -/
/-- Merging a new candidate into a list, up to node k. -/
structure Next (out : List Cand) (n : Int) (k : Nat) (next : List Cand) : Prop where
  pw : next.Pairwise (fun a b => a.node < b.node)
  mem : ∀ c ∈ next, (c ∈ out ∨ c = ⟨n, 9, 0⟩) ∧ c.node < k
  all : ∀ c ∈ out, c.node < k → c ∈ next
theorem Next.zero (out : List Cand) (n : Int) (hv : Valid out) : Next out n 0 [] :=
  ⟨List.Pairwise.nil, fun c hc => (by cases hc), fun c hc h => (by have := (valid_mem hv hc).1; omega)⟩
theorem Next.skip {out next : List Cand} {n : Int} {k : Nat} (h : Next out n k next) (hno : ∀ d ∈ out, d.node ≠ k) : Next out n (k + 1) next :=
  ⟨h.pw, fun c hc => ⟨(h.mem c hc).1, by have := (h.mem c hc).2; omega⟩, fun c hc hlt => h.all c hc (by have := hno c hc; omega)⟩
theorem Next.snoc {out next : List Cand} {n : Int} {k : Nat} {c : Cand} (h : Next out n k next) (hv : Valid out) (hc : c ∈ out ∨ (c = ⟨n, 9, 0⟩ ∧ ∀ d ∈ out, d.node ≠ k)) (hk : c.node = k) : Next out n (k + 1) (next ++ [c]) := by
  refine ⟨?_, fun d hd => ?_, fun d hd hlt => ?_⟩
  · rw [List.pairwise_append]
    refine ⟨h.pw, List.pairwise_singleton .., fun a ha b hb => ?_⟩
    rw [List.mem_singleton] at hb
    subst hb
    have := (h.mem a ha).2
    omega
  · rcases List.mem_append.1 hd with h1 | h1
    · exact ⟨(h.mem d h1).1, by have := (h.mem d h1).2; omega⟩
    · rw [List.mem_singleton] at h1
      subst h1
      exact ⟨hc.imp id (·.1), by omega⟩
  · by_cases he : d.node = k
    · rcases hc with h1 | ⟨_, h2⟩
      · exact List.mem_append.2 (.inr (List.mem_singleton.2 (pw_node (valid_pw hv) hd h1 (he.trans hk.symm))))
      · exact absurd he (h2 d hd)
    · exact List.mem_append.2 (.inl (h.all d hd (by omega)))
theorem Next.valid {out next : List Cand} {n : Int} (h : Next out n 8 next) (hv : Valid out) (hn : 0 ≤ n ∧ n ≤ 7) : Valid next :=
  pw_valid h.pw fun c hc => by
    rcases (h.mem c hc).1 with h1 | h1
    · exact valid_mem hv h1
    · subst h1
      exact ⟨hn, ⟨by show (0:Int) ≤ 9; decide, by show (9:Int) ≤ 9; decide⟩, ⟨by show (0:Int) ≤ 0; decide, by show (0:Int) ≤ 2; decide⟩⟩
theorem Next.has {out next : List Cand} {n : Int} (h : Next out n 8 next) (hv : Valid out) {c : Cand} (hc : c ∈ out) : c ∈ next :=
  h.all c hc (by have := (valid_mem hv hc).1; omega)
theorem App.new_spk {out next : List Cand} {s t n : Int} (h : App out s t) (hx : Next out n 8 next) (hn : 0 ≤ n ∧ n ≤ 7) (h0 : 0 ≤ s) : Go.Proofs.Ytkldfjlgphapeaa.spk next = s := by
  have hs := spk_char h.valid
  rw [h.spk] at hs
  rcases hs with ⟨sc, hsc, hp, he, _⟩ | ⟨he, _⟩
  · rw [he]
    refine spk_is (hx.valid h.valid hn) (hx.has h.valid hsc) hp fun c hc _ hne => ?_
    rw [h.two hsc he.symm]
    rcases (hx.mem c hc).1 with h1 | h1
    · have h2 : c.node ≠ s := fun hx => hne (pw_node (valid_pw h.valid) h1 hsc (hx.trans he))
      by_cases h3 : c.node = t
      · rw [h.one h1 h2 h3]; decide
      · rw [h.zero h1 h2 h3]; decide
    · subst h1; show (0 : Int) < 2; decide
  · omega
theorem App.new_bak {out next : List Cand} {s t n : Int} (h : App out s t) (hx : Next out n 8 next) (hn : 0 ≤ n ∧ n ≤ 7) (h0 : 0 ≤ s) (ht : 0 ≤ t) : Go.Proofs.Ytkldfjlgphapeaa.bak next = t := by
  have hsp := h.new_spk hx hn h0
  have hb := bak_char h.valid
  rw [h.spk, h.bak] at hb
  rcases hb with ⟨b, hb, hp, hne, he, _⟩ | ⟨he, _⟩
  · rw [he]
    refine bak_is (hx.valid h.valid hn) (hx.has h.valid hb) hp (by rw [hsp]; exact hne) (by rw [h.one hb hne he.symm]; decide) fun c hc _ hcb hcs => ?_
    rw [hsp] at hcs
    rcases (hx.mem c hc).1 with h1 | h1
    · exact h.zero h1 hcs fun hx => hcb (pw_node (valid_pw h.valid) h1 hb (hx.trans he))
    · subst h1; rfl
  · omega
end Go.Proofs.Ytkldfjlgphapeaa
