/- Tables in plain Lean: what the next hop of an address is, and what a change does to it. Conditions: valid tables, addresses from 0 to 255. -/
import Derived.Test.YtlkchocjldllgaaTabP
import Derived.Test.YtlkchocjldllgaaTabG
namespace Go.Proofs.Ytlkchocjldllgaa

/-- The next hop of a, told by the routes' set. -/
def HS (t : Tab) (a h : Int) : Prop :=
  ((∀ r ∈ t.routes, ¬ Mt r a) ∧ h = -1) ∨ (∃ r ∈ t.routes, Mt r a ∧ (∀ q ∈ t.routes, Mt q a → q.bits ≤ r.bits) ∧ t.hops[r.hop.toNat]? = some h)
theorem mt_ky {r q : Rt} {a n : Int} (h : RV r n) (h' : RV q n) (hm : Mt r a) (hm' : Mt q a) (hb : r.bits = q.bits) : Ky r q := by
  refine ⟨?_, hb⟩
  unfold Mt at hm hm'
  have h1 := Int.mul_ediv_add_emod r.pre (low r.bits)
  have h2 := Int.mul_ediv_add_emod q.pre (low q.bits)
  rw [h.2.2.1] at h1
  rw [h'.2.2.1] at h2
  rw [← hm] at h1
  rw [← hm', ← hb] at h2
  omega
theorem Ky.mt {r q : Rt} {a : Int} (h : Ky r q) (hm : Mt r a) : Mt q a := by
  unfold Mt at *
  rw [← h.1, ← h.2]
  exact hm
theorem HS.uniq {t : Tab} {a h h' : Int} (hV : TV t) (x : HS t a h) (y : HS t a h') : h = h' := by
  rcases x with ⟨x1, x2⟩ | ⟨r, x1, x2, x3, x4⟩
  · rcases y with ⟨_, y2⟩ | ⟨q, y1, y2, _, _⟩
    · rw [x2, y2]
    · exact absurd y2 (x1 q y1)
  · rcases y with ⟨y1, _⟩ | ⟨q, y1, y2, y3, y4⟩
    · exact absurd x2 (y1 r x1)
    · have h1 := x3 q y1 y2
      have h2 := y3 r x1 x2
      have hk := mt_ky (hV.vl.rv r x1) (hV.vl.rv q y1) x2 y2 (by omega)
      have := hV.vl.uniq x1 y1 hk
      subst this
      rw [x4] at y4
      exact Option.some.inj y4
theorem HpR.hs {t : Tab} {a h : Int} (hV : TV t) (ha : 0 ≤ a ∧ a ≤ 255) (x : HpR t a h) : HS t a h := by
  obtain ⟨b, h1, h2⟩ := x
  rcases h1 with ⟨_, h1⟩ | ⟨h1, _⟩
  · rcases h1 with ⟨rfl, h3⟩ | ⟨m, q, rfl, h3, h4, h5, h6⟩
    · rcases h2 with ⟨_, h2⟩ | ⟨_, h2, _⟩
      · refine .inl ⟨fun r hr => ?_, h2⟩
        obtain ⟨i, hi⟩ := List.mem_iff_getElem?.1 hr
        exact h3 i r (get_lt hi) hi
      · omega
    · rcases h2 with ⟨h2, _⟩ | ⟨r, h2, h7, h8⟩
      · omega
      · rw [Int.toNat_natCast, h4] at h7
        cases h7
        refine .inr ⟨q, List.mem_of_getElem? h4, h5, fun p hp hm => ?_, h8⟩
        obtain ⟨i, hi⟩ := List.mem_iff_getElem?.1 hp
        rcases h6 i p (get_lt hi) hi hm with h9 | ⟨h9, _⟩ <;> omega
  · exact absurd ⟨hV, ha⟩ h1
theorem hop_add {t : Tab} {r : Rt} {a h h' : Int} (hok : (addT t r).2 = true) (ha : 0 ≤ a ∧ a ≤ 255) (hm : ¬ Mt r a) (x : HpR (addT t r).1 a h) (y : HpR t a h') : h = h' := by
  have hV' := addT_tv hok
  obtain ⟨hV, hR, hl, he⟩ := addT_ok hok
  have x := x.hs hV' ha
  have y := y.hs hV ha
  rw [he] at x hV'
  refine HS.uniq hV' x ?_
  rcases y with ⟨y1, y2⟩ | ⟨q, y1, y2, y3, y4⟩
  · refine .inl ⟨fun p hp => ?_, y2⟩
    rcases (insL_mem hV.vl.pw r p).1 hp with rfl | ⟨h1, _⟩
    · exact hm
    · exact y1 p h1
  · refine .inr ⟨q, (insL_mem hV.vl.pw r q).2 (.inr ⟨y1, fun hk => hm (hk.mt y2)⟩), y2, fun p hp hpm => ?_, y4⟩
    rcases (insL_mem hV.vl.pw r p).1 hp with rfl | ⟨h1, _⟩
    · exact absurd hpm hm
    · exact y3 p h1 hpm
theorem remT_tv {t : Tab} (hV : TV t) (p b : Int) : TV (remT t p b).1 := by
  rw [remT_yes hV]
  have := remL_len t.routes p b
  exact tv_mk (show (remL t.routes p b).length ≤ 10 by have := hV.len.2; omega) hV.hv (remL_vl hV.vl p b)
theorem hop_rem {t : Tab} {p b : Int} {a h h' : Int} (hV : TV t) (ha : 0 ≤ a ∧ a ≤ 255) (hm : ¬ Mt ⟨p, b, 0⟩ a) (x : HpR (remT t p b).1 a h) (y : HpR t a h') : h = h' := by
  have hV' := remT_tv hV p b
  have x := x.hs hV' ha
  have y := y.hs hV ha
  rw [remT_yes hV] at x hV'
  refine HS.uniq hV' x ?_
  rcases y with ⟨y1, y2⟩ | ⟨q, y1, y2, y3, y4⟩
  · exact .inl ⟨fun p hp => y1 p (remL_mem.1 hp).1, y2⟩
  · exact .inr ⟨q, remL_mem.2 ⟨y1, fun hk => hm (Ky.mt (show Ky q ⟨p, b, 0⟩ from hk) y2)⟩, y2, fun p hp hpm => y3 p (remL_mem.1 hp).1 hpm, y4⟩
theorem hop_exact {t : Tab} {r : Rt} {h h' : Int} (hV : TV t) (hr : r ∈ t.routes) (h8 : r.bits = 8) (x : HpR t r.pre h) (y : t.hops[r.hop.toNat]? = some h') : h = h' := by
  have hrv := hV.vl.rv r hr
  refine HS.uniq hV (x.hs hV hrv.2.1) (.inr ⟨r, hr, rfl, fun q hq _ => ?_, y⟩)
  have := (hV.vl.rv q hq).1
  omega
theorem find_default {t : Tab} {n : Int} {a b : Int} (hok : (addT t ⟨0, 0, n⟩).2 = true) (ha : 0 ≤ a ∧ a ≤ 255) (x : FdR (addT t ⟨0, 0, n⟩).1 a b) : 0 ≤ b := by
  have hV' := addT_tv hok
  obtain ⟨hV, hR, hl, he⟩ := addT_ok hok
  rcases x with ⟨_, x⟩ | ⟨x, _⟩
  · rcases x with ⟨_, x⟩ | ⟨m, q, rfl, _⟩
    · exfalso
      have h1 : (⟨0, 0, n⟩ : Rt) ∈ (addT t ⟨0, 0, n⟩).1.routes := by rw [he]; exact insL_self _ _
      obtain ⟨i, hi⟩ := List.mem_iff_getElem?.1 h1
      refine x i _ (get_lt hi) hi ?_
      show a / 256 = 0 / 256
      omega
    · omega
  · exact absurd ⟨hV', ha⟩ x
/-- Adding a route twice. -/
theorem add_twice {t : Tab} {r : Rt} (hok : (addT t r).2 = true) : addT (addT t r).1 r = ((addT t r).1, true) := by
  have hV' := addT_tv hok
  obtain ⟨hV, hR, hl, he⟩ := addT_ok hok
  rw [he] at hV' ⊢
  have hs : insL (insL t.routes r) r = insL t.routes r := by
    refine pw_ext (insL_pw hV'.vl.pw r) hV'.vl.pw fun x => ?_
    rw [insL_mem hV'.vl.pw]
    show x = r ∨ (x ∈ insL t.routes r ∧ ¬ Ky x r) ↔ x ∈ insL t.routes r
    constructor
    · rintro (rfl | ⟨h, _⟩)
      · exact insL_self _ _
      · exact h
    · intro h
      by_cases hk : Ky x r
      · exact .inl (hV'.vl.uniq h (insL_self _ _) hk)
      · exact .inr ⟨h, hk⟩
  rw [addT_yes hV' hR (by show (insL (insL t.routes r) r).length ≤ 10; rw [hs]; exact hl)]
  show (Tab.mk (insL (insL t.routes r) r) t.hops, true) = _
  rw [hs]
/-- The order in which two routes are added does not matter. -/
theorem add_order {t : Tab} {r u : Rt} (hok : (addT t r).2 = true) (h1 : (addT (addT t r).1 u).2 = true) (h2 : (addT t u).2 = true) (hk : ¬ Ky u r) : addT (addT t u).1 r = ((addT (addT t r).1 u).1, true) := by
  have hVr := addT_tv hok
  have hVu := addT_tv h2
  have hVru := addT_tv h1
  obtain ⟨hV, hR, hl, he⟩ := addT_ok hok
  obtain ⟨_, hU, hl', he'⟩ := addT_ok h2
  obtain ⟨_, _, hl'', he''⟩ := addT_ok h1
  rw [he''] at hVru ⊢
  rw [he] at hVr hVru hl'' ⊢
  rw [he'] at hVu ⊢
  have hs : insL (insL t.routes u) r = insL (insL t.routes r) u := by
    refine pw_ext (insL_pw hVu.vl.pw r) (insL_pw hVr.vl.pw u) fun x => ?_
    rw [insL_mem hVu.vl.pw, insL_mem hVr.vl.pw]
    show x = r ∨ (x ∈ insL t.routes u ∧ ¬ Ky x r) ↔ x = u ∨ (x ∈ insL t.routes r ∧ ¬ Ky x u)
    rw [insL_mem hV.vl.pw, insL_mem hV.vl.pw]
    constructor
    · rintro (rfl | ⟨rfl | ⟨h, h'⟩, h''⟩)
      · exact .inr ⟨.inl rfl, fun h => hk h.symm⟩
      · exact .inl rfl
      · exact .inr ⟨.inr ⟨h, h''⟩, h'⟩
    · rintro (rfl | ⟨rfl | ⟨h, h'⟩, h''⟩)
      · exact .inr ⟨.inl rfl, hk⟩
      · exact .inl rfl
      · exact .inr ⟨.inr ⟨h, h''⟩, h'⟩
  rw [addT_yes hVu hR (by show (insL (insL t.routes u) r).length ≤ 10; rw [hs]; exact hl'')]
  show (Tab.mk (insL (insL t.routes u) r) t.hops, true) = _
  rw [hs]
/-- Only a full table refuses a route. -/
theorem add_full {t : Tab} {r : Rt} (hno : (addT t r).2 = false) (hne : (addT t r).1.routes.length ≠ 0) : addT t r = (t, false) ∧ t.routes.length = 10 ∧ ∀ q ∈ t.routes, ¬ Ky q r := by
  by_cases h1 : TV t ∧ RV r t.hops.length
  · by_cases h2 : (insL t.routes r).length ≤ 10
    · rw [addT_yes h1.1 h1.2 h2] at hno; cases hno
    · have h3 := h1.1.len.2
      rcases insL_len_iff h1.1.vl.pw r with ⟨h4, _⟩ | ⟨h4, h5⟩
      · omega
      · exact ⟨addT_full h1.1 h1.2 h2, by omega, h5⟩
  · rw [addT_no h1] at hne; exact absurd rfl hne
/-- A removed route, added again. -/
theorem rem_add {t : Tab} {p b : Int} {k : Nat} {q : Rt} (hV : TV t) (h : t.routes[k]? = some q) (h1 : q.pre = p) (h2 : q.bits = b) : addT (remT t p b).1 q = (t, true) ∧ (remT t p b).1.routes.length + 1 = t.routes.length := by
  have hV' := remT_tv hV p b
  rw [remT_yes hV] at hV' ⊢
  have hq := List.mem_of_getElem? h
  have hl := remL_found hV.vl.pw h h1 h2
  have hs : insL (remL t.routes p b) q = t.routes := by
    refine pw_ext (insL_pw hV'.vl.pw q) hV.vl.pw fun x => ?_
    rw [insL_mem hV'.vl.pw]
    show x = q ∨ (x ∈ remL t.routes p b ∧ ¬ Ky x q) ↔ x ∈ t.routes
    rw [remL_mem]
    constructor
    · rintro (rfl | ⟨⟨h, _⟩, _⟩)
      · exact hq
      · exact h
    · intro hx
      by_cases hk : Ky x q
      · exact .inl (hV.vl.uniq hx hq hk)
      · exact .inr ⟨⟨hx, fun hk' => hk ⟨by omega, by omega⟩⟩, hk⟩
  have h10 := hV.len.2
  rw [addT_yes hV' (hV.vl.rv q hq) (by show (insL (remL t.routes p b) q).length ≤ 10; rw [hs]; exact h10)]
  show (Tab.mk (insL (remL t.routes p b) q) t.hops, true) = _ ∧ _
  rw [hs]
  exact ⟨rfl, hl⟩
theorem rem_found {t : Tab} {p b : Int} (h : (remT t p b).2 = true) : TV t ∧ ∃ (k : Nat) (q : Rt), t.routes[k]? = some q ∧ q.pre = p ∧ q.bits = b := by
  by_cases hV : TV t
  · refine ⟨hV, ?_⟩
    apply Classical.byContradiction
    intro hn
    rw [remT_yes hV, remL_none] at h
    · simp at h
    · intro x hx hk
      obtain ⟨i, hi⟩ := List.mem_iff_getElem?.1 hx
      exact hn ⟨i, x, hi, hk⟩
  · rw [remT_no hV] at h; cases h
/-- Turning a next hop changes the next hops of its routes alone. -/
theorem turn_find {t : Tab} {h n a b b' : Int} (hn : TV t ∧ (0 ≤ h ∧ h ≤ t.hops.length - 1) ∧ (0 ≤ n ∧ n ≤ 7)) (x : FdR t a b) (y : FdR (turnT t h n).1 a b') : b = b' := by
  have hV' := turnT_tv hn
  rw [turnT_yes hn] at y hV'
  by_cases ha : 0 ≤ a ∧ a ≤ 255
  · rcases x with ⟨_, x⟩ | ⟨x, _⟩
    · rcases y with ⟨_, y⟩ | ⟨y, _⟩
      · exact Fd.uniq (t := t) x y
      · exact absurd ⟨hV', ha⟩ y
    · exact absurd ⟨hn.1, ha⟩ x
  · rcases x with ⟨⟨_, x⟩, _⟩ | ⟨_, x⟩
    · exact absurd x ha
    · rcases y with ⟨⟨_, y⟩, _⟩ | ⟨_, y⟩
      · exact absurd y ha
      · rw [x, y]
theorem turn_hop {t : Tab} {h n a b c c' : Int} (hn : TV t ∧ (0 ≤ h ∧ h ≤ t.hops.length - 1) ∧ (0 ≤ n ∧ n ≤ 7)) (hf : FdR t a b) (x : HpR (turnT t h n).1 a c) (y : HpR t a c') :
    (∀ r, 0 ≤ b → t.routes[b.toNat]? = some r → r.hop = h → c = n) ∧ ((b < 0 ∨ ∃ r, t.routes[b.toNat]? = some r ∧ r.hop ≠ h) → c = c') := by
  obtain ⟨d, hd, x⟩ := x
  obtain rfl := turn_find hn hf hd
  obtain ⟨d', hd', y⟩ := y
  obtain rfl := hf.uniq hd'
  rw [turnT_yes hn] at x
  refine ⟨fun r h0 hr hh => ?_, fun hc => ?_⟩
  · rcases x with ⟨x, _⟩ | ⟨r', _, x, x'⟩
    · omega
    · rw [hr] at x
      cases x
      rw [hh, List.getElem?_set_self (by omega)] at x'
      exact (Option.some.inj x').symm
  · rcases x with ⟨x, x'⟩ | ⟨r', hb, x, x'⟩
    · rcases y with ⟨_, y⟩ | ⟨_, y, _⟩
      · rw [x', y]
      · omega
    · rcases y with ⟨y, _⟩ | ⟨r'', _, y, y'⟩
      · omega
      · have hx : t.routes[b.toNat]? = some r' := x
        rw [hx] at y
        cases y
        rcases hc with hc | ⟨r, hr, hne⟩
        · omega
        · rw [hx] at hr
          cases hr
          have hrv := hn.1.vl.rv r' (List.mem_of_getElem? hx)
          have := hrv.2.2.2
          rw [List.getElem?_set_ne (by omega), y'] at x'
          exact (Option.some.inj x').symm
theorem turn_back {t : Tab} {h n m : Int} (hn : TV t ∧ (0 ≤ h ∧ h ≤ t.hops.length - 1) ∧ (0 ≤ n ∧ n ≤ 7)) (hm : t.hops[h.toNat]? = some m) : turnT (turnT t h n).1 h m = (t, (cntH t.routes h : Int)) := by
  have hV' := turnT_tv hn
  rw [turnT_yes hn] at hV' ⊢
  have := hn.1.hv.2 m (List.mem_of_getElem? hm)
  rw [turnT_yes ⟨hV', by simpa using hn.2.1, this⟩]
  show (Tab.mk t.routes ((t.hops.set h.toNat n).set h.toNat m), _) = _
  have he : (t.hops.set h.toNat n).set h.toNat m = t.hops := by
    rw [List.set_set]
    apply List.ext_getElem?
    intro i
    by_cases hi : i = h.toNat
    · subst hi
      rw [List.getElem?_set_self (get_lt hm), hm]
    · rw [List.getElem?_set_ne (by omega)]
  rw [he]
end Go.Proofs.Ytlkchocjldllgaa
