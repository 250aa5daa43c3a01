/- Drawing for the mixed tables: l92Changed, DrawMixedHops, DrawMixedLoop, DrawMixedArrives. Conditions: bytes. -/
import Derived.Test.YtbhkjeicogjfbaaOrdL
import Derived.Test.YtbhkjeicogjfbaaLoopS
namespace Go.Proofs.Ytbhkjeicogjfbaa
open Go.RowKit

/-- While the changed nodes are drawn: the reader g, the order Rl in vo, the drawn nodes L in v. -/
structure ChI (w0 W : World) (g : Nat) (bs : List Int) (p : Nat) (vo : Value) (Rl : List Int) (v : Value) (L : List Int) : Prop where
  gr : w0.grownBy W (some g)
  rd : Rd W g bs p
  od : Own ic 3 1 W w0.heap.size vo Rl
  ou : Own ic 3 1 W w0.heap.size v L
  ne : ∀ q, vo.ownBlock = some q → v.ownBlock ≠ some q
  lo : g < w0.heap.size
section
variable {w0 W W' : World} {g p p' : Nat} {bs : List Int} {vo v : Value} {Rl L : List Int}
theorem ChI.pick (h : ChI w0 W g bs p vo Rl v L) (hg : W.grownBy W' (some g)) (R : Rd W' g bs p') : ChI w0 W' g bs p' vo Rl v L :=
  ⟨only_trans h.gr hg, R, h.od.only hg h.lo, h.ou.only hg h.lo, h.ne, h.lo⟩
theorem ChI.below (h : ChI w0 W g bs p vo Rl v L) (hb : Below W.heap.size W W') : ChI w0 W' g bs p vo Rl v L :=
  ⟨only_below h.gr hb, h.rd.below hb, h.od.below hb, h.ou.below hb, h.ne, h.lo⟩
theorem wpList_appC {P : Program} {t : TypeId} {B : Nat} {w : World} {ops : Array Oper} {rest : List Oper} {o : Oper} {a : Act} {Q : Exit → Act → World → Prop} (hgd : o.guard = none)
    (I : SlInf P t 3 ic 1) (x y : Operand) (ho : o.op = .call { callee := .builtin .append, args := #[x, y], argTypes := #[t, t] }) (v u : Value) (hx : a.eval x = v) (hy : a.eval y = u) (l m l' : List Int) (N : Nat) (hl : l' = l ++ m) (hN : l'.length = N)
    (h : ChI w0 w g bs p vo Rl v l) (hm : SlR ic 1 w B u m) (hn : N ≤ 2097152)
    (hK : ∀ A cap w', ChI w0 w' g bs p vo Rl (.slice A N cap) l' → wpList P ops Q rest (a.put o.dst (.slice A N cap)) w') : wpList P ops Q (o :: rest) a w := by
  subst hl
  rw [List.length_append] at hN
  subst hN
  refine wpList_app hgd I x y ho v u hx hy w0.heap.size B l m h.ou hm hn h.gr.size fun A cap w' h3 h4 h5 => hK A cap w' ⟨?_, ?_, own_grown h.od h4 fun q hq => h.ne q hq, h3, fun q hq => ?_, h.lo⟩
  · exact only_own h.gr h4 fun q hq => (World.ownsRow.lt h.ou q hq).1
  · exact h.rd.own h4 (fun q hq => (World.ownsRow.lt h.ou q hq).1) h.lo
  · rcases h5 with h5 | h5
    · rw [h5]; exact h.ne q hq
    · rw [h5]
      have := (World.ownsRow.lt h.od q hq).2
      intro h6
      injection h6
      omega
end
def DrawCPost (bs : List Int) (g p : Nat) (w : World) (e : Ending) (w' : World) : Prop :=
  ∃ (v : Value) (L : List Int) (p' : Nat), e = .returned v ∧ Own ic 3 1 w' w.heap.size v L ∧ L.length ≤ 9 ∧ Rd w' g bs p' ∧ p' ≤ p + 20 ∧ w.grownBy w' (some g)
set_option maxRecDepth 100000 in
set_option maxHeartbeats 1600000 in
theorem drawChanged_any (v : Value) (gr : Gr) (k t : Int) (bs : List Int) (g p : Nat) (w : World) (hR : Rd w g bs p) (hp : p ≤ 1000000) (hv : GrR w w.heap.size v gr) (hn : gr.ls.length ≤ 15) :
    Calls Try.prog 81 #[.pointer (some ⟨g, 0, none⟩), v, .int .i64 k, .int .i64 t] w (DrawCPost bs g p w) := by
  have hvv := hv
  obtain ⟨A, cap, rfl, hfc, hfr⟩ := hv.form
  clear hfc hfr
  obtain ⟨wb, hwb⟩ : ∃ wb, wb = w.alloc (Obj.cells #[.int .i64 gr.n, .slice A gr.ls.length cap] 25) := ⟨_, rfl⟩
  have hbw : Below w.heap.size w wb := by rw [hwb]; exact below1 _ _
  have HB : Hid (Blk wb w.heap.size 25 #[.int .i64 gr.n, .slice A gr.ls.length cap]) := hide (by rw [hwb]; exact Blk.new _ _ _)
  have HV := hide (hvv.up hbw)
  have hgl := hR.lt
  have HR := hide (hR.below hbw)
  have f0 := only_below (only_refl w (some g)) hbw
  have c0 := HB.out.cell 0
  have c1 := HB.out.cell 1
  clear hvv hv hR
  go_enter Try.func81, Try.ntmps81
  go_wp2_with fail
  rw [← hwb]
  clear hwb
  refine (specOrder_any _ gr k t _ HV.out (by omega)).mono ?_
  rintro e w1 ⟨v1, rfl, hO1, hb1⟩
  obtain ⟨Rl, hRl⟩ : ∃ Rl, Rl = ordX gr k t := ⟨_, rfl⟩
  have hl8 : Rl.length ≤ 8 := by rw [hRl]; exact ordX_len _ _ _
  rw [← hRl] at hO1
  obtain ⟨A1, k1, rfl, hk1, _⟩ := hO1.lit
  have H1 : Hid (ChI w w1 g bs p (.slice A1 Rl.length k1) Rl (.slice none 0 0) []) := hide
    ⟨only_below f0 hb1, HR.out.below hb1, hO1.low hbw.size, Own.nil _ _ _ _ _, fun q _ h => by simp [Value.ownBlock] at h, hgl⟩
  clear hRl hO1 hb1 HB HV HR f0 hbw c0 c1
  go_wp2_with fail
  refine (pick_any bs g p _ _ H1.out.rd (by omega)).mono ?_
  rintro e w2 ⟨r1, rfl, ⟨h10, h11⟩, R2, hg2⟩
  have H2 := hide (H1.out.pick hg2 R2)
  clear H1 R2 hg2 h11
  by_cases h0 : r1 = 0
  · have e0 : (r1 == 0) = true := by simp [h0]
    clear h0
    go_wp2_with fail
    refine (pick_any bs g (p + 1) _ _ H2.out.rd (by omega)).mono ?_
    rintro e w3 ⟨r2, rfl, ⟨h20, h21⟩, R3, hg3⟩
    have h22 := h21 (by omega)
    have H3 := hide (H2.out.pick hg3 R3)
    obtain ⟨n2, rfl⟩ := Int.eq_ofNat_of_zero_le h20
    have hn2 : n2 ≤ Rl.length := by omega
    clear H2 R3 hg3 h21 h22
    rcases H3.out.od.2 with ⟨h3, h4⟩ | ⟨g3, c3, cur, h3, _⟩
    · injection h3 with h5 h6 h7
      subst h5 h7
      obtain rfl : n2 = 0 := by omega
      rw [h4]
      go_wp2
      go_ret
      exact ⟨_, [], _, rfl, Own.nil _ _ _ _ _, by simp, H3.out.rd, by omega, H3.out.gr⟩
    · injection h3 with h5 h6 h7
      subst h5
      have hq : n2 ≤ k1 := by omega
      have HO := hide (H3.out.od.cut ic_len rfl hn2)
      have hl : (Rl.take n2).length ≤ 9 := by rw [List.length_take]; omega
      clear h7
      go_wp2
      go_ret
      exact ⟨_, Rl.take n2, _, rfl, HO.out, hl, H3.out.rd, by omega, H3.out.gr⟩
  have e0 : (r1 == 0) = false := by simp [h0]
  clear h0 h10
  have hE := ownE (enc := ic) (s := 1) w2 3 H2.out.gr.size
  have h23 := below1 w2 (Obj.cells #[] 3)
  have hlt1 : ∀ q, (Value.slice A1 Rl.length k1).ownBlock = some q → q < w2.heap.size := fun q hq => (World.ownsRow.lt H2.out.od q hq).2
  obtain ⟨w3, hw3⟩ : ∃ w3, w3 = w2.alloc (Obj.cells #[] 3) := ⟨_, rfl⟩
  obtain ⟨E, hEE⟩ : ∃ E, E = w2.heap.size := ⟨_, rfl⟩
  rw [← hw3] at hE h23
  have H3 : Hid (ChI w w3 g bs (p + 1) (.slice A1 Rl.length k1) Rl (.slice (some ⟨E, 0, none⟩) 0 0) []) := hide
    ⟨only_below H2.out.gr h23, H2.out.rd.below h23, H2.out.od.below h23, by rw [hEE]; exact hE, fun q hq h => by
      have := hlt1 q hq
      simp [Value.ownBlock] at h
      omega, hgl⟩
  clear hE h23 hlt1 H2
  go_upto_region 5 with fail
  rw [← hw3, ← hEE]
  clear hw3 hEE e0
  go_wp2
  go_loopg [10, 11] (Rl.length) (fun gg rv iv wr => ∃ (i : Nat) (A5 : Option Addr) (c5 : Nat) (L : List Int) (p' : Nat), i + gg = Rl.length ∧ rv = .slice A5 L.length c5 ∧ iv = .int .i64 i ∧ L.length ≤ i ∧ p' ≤ p + 1 + i ∧ Hid (ChI w wr g bs p' (.slice A1 Rl.length k1) Rl (.slice A5 L.length c5) L))
  case atStart => exact ⟨0, _, _, [], p + 1, by omega, rfl, rfl, by simp, by omega, H3⟩
  case round =>
    clear H3
    obtain ⟨i, A5, c5, L, p', hi, rfl, rfl, hLi, hp', H⟩ := hrel
    by_cases hlt : i < Rl.length
    · go_wp2_with fail
      refine (pick_any bs g p' _ _ H.out.rd (by omega)).mono ?_
      rintro e w4 ⟨r2, rfl, ⟨h20, h21⟩, R4, hg4⟩
      have H4 := hide (H.out.pick hg4 R4)
      clear H R4 hg4 h21
      by_cases h0 : r2 = 0
      · have e0 : (r2 == 0) = true := by simp [h0]
        clear h0 h20
        obtain ⟨x, hx⟩ := get_some hlt
        obtain ⟨o1, c1, he, _, _⟩ := H4.out.od.form (by omega)
        obtain ⟨rfl, rfl⟩ : A1 = some ⟨o1, 0, none⟩ ∧ k1 = c1 := by
          injection he with h1 h2 h3
          exact ⟨h1, h3⟩
        have xm := own_int H4.out.od hx
        clear he hx
        go_upto_region 7 with (at_builtin; refine wpList_appC (by rfl) infI (.tmp 36) (.tmp 41) (by rfl) _ _ (by rfl) (by rfl) L [x] (L ++ [x]) (L.length + 1) rfl (by simp) (H4.out.below (below1 _ _)) (slr_lit _ _) (by omega) ?_; intro Ay capy w5 hH5)
        have H5 := hide hH5
        clear hH5 H4 xm e0
        go_wp2
        go_roundg (gk - 1)
        case measure => omega
        case rel => exact ⟨i + 1, Ay, capy, L ++ [x], p' + 1, by omega, by simp, by go_num, by simp; omega, by omega, by simpa using H5⟩
      · have e0 : (r2 == 0) = false := by simp [h0]
        clear h0 h20
        go_wp2
        go_roundg (gk - 1)
        case measure => omega
        case rel => exact ⟨i + 1, _, _, L, p' + 1, by omega, rfl, by go_num, by omega, by omega, H4⟩
    · go_wp2_with fail
      refine (pick_any bs g p' _ _ H.out.rd (by omega)).mono ?_
      rintro e w4 ⟨r2, rfl, ⟨h20, h21⟩, R4, hg4⟩
      have H4 := hide (H.out.pick hg4 R4)
      clear H R4 hg4 h21
      by_cases h0 : r2 = 0
      · have e0 : (r2 == 0) = true := by simp [h0]
        clear h0 h20
        go_wp2_with fail
        refine (pick_any bs g (p' + 1) _ _ H4.out.rd (by omega)).mono ?_
        rintro e w5 ⟨r3, rfl, ⟨h30, h31⟩, R5, hg5⟩
        have H5 := hide (H4.out.pick hg5 R5)
        have h32 := h31 (by omega)
        have hw : IntKind.i64.wrap (r3 - 1) = r3 - 1 := by rw [IntKind.wrap_i64]; omega
        clear H4 R5 hg5 h31 e0
        go_upto_region 12 with (at_builtin; refine wpList_appC (by rfl) infI (.tmp 46) (.tmp 50) (by rfl) _ _ (by rfl) (by rfl) L [r3 - 1] (L ++ [r3 - 1]) (L.length + 1) rfl (by simp) (H5.out.below (below1 _ _)) (slr_lit _ _) (by omega) ?_; intro Ay capy w6 hH6)
        have H6 := hide hH6
        clear hH6 H5
        go_wp2
        go_ret
        exact ⟨_, L ++ [r3 - 1], _, rfl, H6.out.ou, by simp; omega, H6.out.rd, by omega, H6.out.gr⟩
      · have e0 : (r2 == 0) = false := by simp [h0]
        clear h0 h20
        go_wp2
        go_ret
        exact ⟨_, L, _, rfl, H4.out.ou, by omega, H4.out.rd, by omega, H4.out.gr⟩

/-- The state of a draw: the reader g, the box T of the graph gr, the result's box, the changed nodes ch. -/
structure DM (w0 W : World) (T g base : Nat) (cs : List Int) (p : Nat) (A : Option Addr) (cap : Nat) (gr : Gr) (cv : Value) (ch : List Int) : Prop where
  ht : Blk W T 25 #[.int .i64 gr.n, .slice A gr.ls.length cap]
  hb : Blk W w0.heap.size 25 #[.int .i64 0, .slice none 0 0]
  ho : OwnG W base (.agg #[.int .i64 gr.n, .slice A gr.ls.length cap]) gr
  hc : Own ic 3 1 W base cv ch
  bw : Below w0.heap.size w0 W
  rd : Rd W g cs p
  gl : g < base
  wg : w0.heap.size < g
  gT : g < T
  sz : base ≤ W.heap.size
section
variable {w0 W W' : World} {T g base : Nat} {cs : List Int} {p p' : Nat} {A : Option Addr} {cap : Nat} {gr : Gr} {cv cv' : Value} {ch ch' : List Int}
theorem DM.below (h : DM w0 W T g base cs p A cap gr cv ch) (hb : Below W.heap.size W W') : DM w0 W' T g base cs p A cap gr cv ch :=
  ⟨h.ht.up hb, h.hb.up hb, h.ho.below hb, h.hc.below hb, h.bw.trans (hb.mono h.bw.size), h.rd.below hb, h.gl, h.wg, h.gT, Nat.le_trans h.sz hb.size⟩
theorem DM.grow (h : DM w0 W T g base cs p A cap gr cv ch) (hg : W.grownBy W' (some g)) (R : Rd W' g cs p') : DM w0 W' T g base cs p' A cap gr cv ch :=
  ⟨h.ht.grown hg (by intro e; injection e; have := h.gT; omega), h.hb.grown hg (by intro e; injection e; have := h.wg; omega), h.ho.only hg h.gl, h.hc.only hg h.gl, h.bw.grown hg h.bw.size (fun q hq => by cases hq; have := h.wg; omega), R, h.gl, h.wg, h.gT, Nat.le_trans h.sz hg.size⟩
theorem DM.chg (h : DM w0 W T g base cs p A cap gr cv ch) (hg : W.grownBy W' (some g)) (R : Rd W' g cs p') (hc : Own ic 3 1 W' W.heap.size cv' ch') : DM w0 W' T g base cs p' A cap gr cv' ch' :=
  ⟨(h.grow hg R).ht, (h.grow hg R).hb, (h.grow hg R).ho, hc.low h.sz, (h.grow hg R).bw, R, h.gl, h.wg, h.gT, (h.grow hg R).sz⟩
end
def DrawMPost (w : World) (e : Ending) (w' : World) : Prop :=
  ∃ (v cv : Value) (gr : Gr) (k t : Int) (ch : List Int), e = .returned (.tuple #[v, .int .i64 k, .int .i64 t, cv]) ∧ OwnG w' w.heap.size v gr ∧ gr.ls.length ≤ 15 ∧ Own ic 3 1 w' w.heap.size cv ch ∧ ch.length ≤ 9 ∧ Below w.heap.size w w'
def DrawMHPost (w : World) (e : Ending) (w' : World) : Prop :=
  ∃ (v cv : Value) (gr : Gr) (k t n : Int) (ch : List Int), e = .returned (.tuple #[v, .int .i64 k, .int .i64 t, cv, .int .i64 n]) ∧ OwnG w' w.heap.size v gr ∧ gr.ls.length ≤ 15 ∧ Own ic 3 1 w' w.heap.size cv ch ∧ ch.length ≤ 9 ∧ Below w.heap.size w w'
set_option maxRecDepth 100000 in
set_option maxHeartbeats 1600000 in
theorem drawMH_any (v : Value) (bs : List Int) (w : World) (hv : SlR bc 1 w w.heap.size v bs) (hm : bs.length ≤ 9223372036854775807 ∧ ∀ n ∈ bs, 0 ≤ n ∧ n ≤ 255) :
    Calls Try.prog 36 #[v] w (DrawMHPost w) := by
  have hb0 := below1 w (Obj.cells #[.int .i64 0, .slice none 0 0] 25)
  have HB0 := hide (Blk.new w 25 #[.int .i64 0, .slice none 0 0])
  have hv0 := hv.up hb0
  go_enter Try.func36, Try.ntmps36
  go_wp2_with fail
  refine (open_any v bs _ hv0 hm).mono ?_
  rintro e w1 ⟨g, cs, rfl, hg0, R1, hb1⟩
  have HB1 := hide (HB0.out.up hb1)
  have hb01 := hb0.trans (hb1.mono hb0.size)
  have hgl := R1.lt
  have hgw : w.heap.size < g := by have := HB0.out.lt; omega
  clear HB0 hb0 hv0 hv hb1 hg0 hm
  go_wp2_with fail
  refine (drawSpoilt_any cs g 0 _ R1 (by omega)).mono ?_
  rintro e w2 ⟨v2, gr, p2, rfl, hO2, hl2, R2, hp2, hg2⟩
  obtain ⟨A, cap, rfl⟩ := hO2.lit
  have hbx := below1 w2 (Obj.cells #[.int .i64 gr.n, .slice A gr.ls.length cap] 25)
  have hgT : g < w2.heap.size := by have := hg2.size; omega
  have hD3 : DM w (w2.alloc (Obj.cells #[.int .i64 gr.n, .slice A gr.ls.length cap] 25)) w2.heap.size g w1.heap.size cs p2 A cap gr (.slice none 0 0) [] :=
    ⟨Blk.new _ _ _, (HB1.out.grown hg2 (by intro e; injection e; omega)).up hbx, hO2.below hbx, Own.nil _ _ _ _ _, (hb01.grown hg2 hb01.size (fun q hq => by cases hq; omega)).trans (hbx.mono (Nat.le_trans hb01.size hg2.size)), R2.below hbx, hgl, hgw, hgT, Nat.le_trans hg2.size hbx.size⟩
  obtain ⟨T, hT⟩ : ∃ T, T = w2.heap.size := ⟨_, rfl⟩
  obtain ⟨w3, hw3⟩ : ∃ w3, w3 = w2.alloc (Obj.cells #[.int .i64 gr.n, .slice A gr.ls.length cap] 25) := ⟨_, rfl⟩
  rw [← hw3, ← hT] at hD3
  have H3 := hide hD3
  clear HB1 hO2 R2 hg2 hbx R1 hD3 hb01 hgl hgT hgw
  go_upto_region 3 with fail
  rw [← hw3, ← hT]
  clear hw3 hT
  have c0 := H3.out.ht.cell 0
  have c1 := H3.out.ht.cell 1
  go_wp2_with fail
  refine (drawLink_any _ gr cs g p2 _ H3.out.rd (by omega) H3.out.ho.grr hl2).mono ?_
  rintro e w4 ⟨k, p4, rfl, R4, hp4, hg4⟩
  have H4 := hide (H3.out.grow hg4 R4)
  clear H3 c0 c1 R4 hg4
  have c0 := H4.out.ht.cell 0
  have c1 := H4.out.ht.cell 1
  go_wp2_with fail
  refine (drawNode_any _ gr cs g p4 _ H4.out.rd (by omega) H4.out.ho.grr hl2).mono ?_
  rintro e w5 ⟨t, p5, rfl, R5, hp5, hg5⟩
  have H5 := hide (H4.out.grow hg5 R5)
  clear H4 c0 c1 R5 hg5
  have c0 := H5.out.ht.cell 0
  have c1 := H5.out.ht.cell 1
  go_wp2_with fail
  refine (drawChanged_any _ gr k t cs g p5 _ H5.out.rd (by omega) H5.out.ho.grr hl2).mono ?_
  rintro e w6 ⟨cv, ch, p6, rfl, hO6, hlc, R6, hp6, hg6⟩
  obtain ⟨Ac, kc, rfl, _, _⟩ := hO6.lit
  have H6 := hide (H5.out.chg hg6 R6 hO6)
  clear H5 c0 c1 R6 hg6 hO6
  have c0 := H6.out.ht.cell 0
  have c1 := H6.out.ht.cell 1
  have H6d := hide (H6.out.below ((Below.refl _ _).drew))
  have hTR : T ≠ w.heap.size := by have := H6.out.gT; have := H6.out.wg; omega
  go_upto_region 6 with fail
  go_region_held3 (fun X => X.cell? ⟨T, 0, none⟩ = some (.int .i64 gr.n) ∧ X.cell? ⟨T, 1, none⟩ = some (.slice A gr.ls.length cap)) (first | go_keep | exact ⟨H7.out.ht.cell 0, H7.out.ht.cell 1⟩ | exact ⟨((H7.out.ht.far (by exact hTR) _).far (by exact hTR) _).cell 0, ((H7.out.ht.far (by exact hTR) _).far (by exact hTR) _).cell 1⟩ | fail)
    (first
      | (go_at_call 53; refine (drawNode_any _ gr cs g p6 _ H6d.out.rd (by omega) ?_ hl2).mono ?_
         · exact H6d.out.ho.grr
         rintro e w7 ⟨n, p7, rfl, R7, hp7, hg7⟩
         have H7 := hide (H6d.out.grow hg7 R7)
         have o0 := H7.out.hb.cell 0
         have o1 := H7.out.hb.cell 1
         have y0 := H7.out.hb.free 0
         have y1 := H7.out.hb.free 1)
      | fail)
  all_goals
    obtain ⟨z2, he, h2⟩ := H7.out.ho
    cases he
    have hcc := H7.out.hc
    have hlo : w.heap.size ≤ w1.heap.size := by have := H7.out.gl; have := H7.out.wg; omega
    go_wp2_with fail
    refine bodyPost_ret (v := .tuple #[.agg #[.int .i64 gr.n, .slice A gr.ls.length cap], .int .i64 k, .int .i64 t, .slice Ac ch.length kc, .int .i64 n]) (by simp [results, Try.results36, go_sem, o0, o1]) rfl ⟨_, _, gr, _, _, _, ch, rfl, ⟨_, rfl, (own_far' (own_far' h2 (own_blk_ne h2 H7.out.hb (by decide)) _) (own_blk_ne h2 H7.out.hb (by decide)) _).low hlo⟩, hl2, (own_far' (own_far' hcc (own_blk_ne hcc H7.out.hb (by decide)) _) (own_blk_ne hcc H7.out.hb (by decide)) _).low hlo, hlc, (H7.out.bw.setCell (Nat.le_refl _) _).setCell (Nat.le_refl _) _⟩
set_option maxRecDepth 100000 in
set_option maxHeartbeats 1600000 in
theorem drawML_any (v : Value) (bs : List Int) (w : World) (hv : SlR bc 1 w w.heap.size v bs) (hm : bs.length ≤ 9223372036854775807 ∧ ∀ n ∈ bs, 0 ≤ n ∧ n ≤ 255) :
    Calls Try.prog 42 #[v] w (DrawMPost w) := by
  have hb0 := below1 w (Obj.cells #[.int .i64 0, .slice none 0 0] 25)
  have HB0 := hide (Blk.new w 25 #[.int .i64 0, .slice none 0 0])
  have hv0 := hv.up hb0
  go_enter Try.func42, Try.ntmps42
  go_wp2_with fail
  refine (open_any v bs _ hv0 hm).mono ?_
  rintro e w1 ⟨g, cs, rfl, hg0, R1, hb1⟩
  have HB1 := hide (HB0.out.up hb1)
  have hb01 := hb0.trans (hb1.mono hb0.size)
  have hgl := R1.lt
  have hgw : w.heap.size < g := by have := HB0.out.lt; omega
  clear HB0 hb0 hv0 hv hb1 hg0 hm
  go_wp2_with fail
  refine (drawSpoilt_any cs g 0 _ R1 (by omega)).mono ?_
  rintro e w2 ⟨v2, gr, p2, rfl, hO2, hl2, R2, hp2, hg2⟩
  obtain ⟨A, cap, rfl⟩ := hO2.lit
  have hbx := below1 w2 (Obj.cells #[.int .i64 gr.n, .slice A gr.ls.length cap] 25)
  have hgT : g < w2.heap.size := by have := hg2.size; omega
  have hD3 : DM w (w2.alloc (Obj.cells #[.int .i64 gr.n, .slice A gr.ls.length cap] 25)) w2.heap.size g w1.heap.size cs p2 A cap gr (.slice none 0 0) [] :=
    ⟨Blk.new _ _ _, (HB1.out.grown hg2 (by intro e; injection e; omega)).up hbx, hO2.below hbx, Own.nil _ _ _ _ _, (hb01.grown hg2 hb01.size (fun q hq => by cases hq; omega)).trans (hbx.mono (Nat.le_trans hb01.size hg2.size)), R2.below hbx, hgl, hgw, hgT, Nat.le_trans hg2.size hbx.size⟩
  obtain ⟨T, hT⟩ : ∃ T, T = w2.heap.size := ⟨_, rfl⟩
  obtain ⟨w3, hw3⟩ : ∃ w3, w3 = w2.alloc (Obj.cells #[.int .i64 gr.n, .slice A gr.ls.length cap] 25) := ⟨_, rfl⟩
  rw [← hw3, ← hT] at hD3
  have H3 := hide hD3
  clear HB1 hO2 R2 hg2 hbx R1 hD3 hb01 hgl hgT hgw
  go_upto_region 3 with fail
  rw [← hw3, ← hT]
  clear hw3 hT
  have c0 := H3.out.ht.cell 0
  have c1 := H3.out.ht.cell 1
  go_wp2_with fail
  refine (drawLink_any _ gr cs g p2 _ H3.out.rd (by omega) H3.out.ho.grr hl2).mono ?_
  rintro e w4 ⟨k, p4, rfl, R4, hp4, hg4⟩
  have H4 := hide (H3.out.grow hg4 R4)
  clear H3 c0 c1 R4 hg4
  have c0 := H4.out.ht.cell 0
  have c1 := H4.out.ht.cell 1
  go_wp2_with fail
  refine (drawNode_any _ gr cs g p4 _ H4.out.rd (by omega) H4.out.ho.grr hl2).mono ?_
  rintro e w5 ⟨t, p5, rfl, R5, hp5, hg5⟩
  have H5 := hide (H4.out.grow hg5 R5)
  clear H4 c0 c1 R5 hg5
  have c0 := H5.out.ht.cell 0
  have c1 := H5.out.ht.cell 1
  go_wp2_with fail
  refine (drawChanged_any _ gr k t cs g p5 _ H5.out.rd (by omega) H5.out.ho.grr hl2).mono ?_
  rintro e w6 ⟨cv, ch, p6, rfl, hO6, hlc, R6, hp6, hg6⟩
  obtain ⟨Ac, kc, rfl, _, _⟩ := hO6.lit
  have H6 := hide (H5.out.chg hg6 R6 hO6)
  clear H5 c0 c1 R6 hg6 hO6
  go_wp2
  go_loopg [8, 9, 10, 11] (20) (fun gg kv tv rv iv wr => ∃ (i : Nat) (k t : Int) (Ac : Option Addr) (kc : Nat) (ch : List Int) (p : Nat), i + gg = 20 ∧ kv = .int .i64 k ∧ tv = .int .i64 t ∧ rv = .slice Ac ch.length kc ∧ iv = .int .i64 i ∧ ch.length ≤ 9 ∧ p ≤ 100000 + 30 * i ∧ Hid (DM w wr T g w1.heap.size cs p A cap gr (.slice Ac ch.length kc) ch))
  case atStart => exact ⟨0, k, t, Ac, kc, ch, p6, by omega, rfl, rfl, rfl, rfl, hlc, by omega, H6⟩
  case round =>
    clear H6 hp2 hp4 hp5 hp6 hlc
    obtain ⟨i, k, t, Ac, kc, ch, p, hi, rfl, rfl, rfl, rfl, hlc, hp, H⟩ := hrel
    by_cases hlt : i < 20
    · have c0 := H.out.ht.cell 0
      have c1 := H.out.ht.cell 1
      go_wp2_with fail
      refine (specLoop_any _ _ gr k t ch _ H.out.ho.grr (by omega) (H.out.hc.slr ic_len) (by omega)).mono ?_
      rintro e w7 ⟨v7, rfl, hO7, hb7⟩
      obtain ⟨X, hX⟩ : ∃ X, X = loopX gr k t ch := ⟨_, rfl⟩
      rw [← hX] at hO7
      obtain ⟨A7, k7, rfl, _, _⟩ := hO7.lit
      have H7 := hide (H.out.below hb7)
      clear H hb7 c0 c1 hO7 hX
      by_cases hl0 : X.length = 0
      · rw [hl0]
        have c0 := H7.out.ht.cell 0
        have c1 := H7.out.ht.cell 1
        go_wp2_with fail
        refine (drawLink_any _ gr cs g p _ H7.out.rd (by omega) H7.out.ho.grr hl2).mono ?_
        rintro e w8 ⟨k', p8, rfl, R8, hp8, hg8⟩
        have H8 := hide (H7.out.grow hg8 R8)
        clear H7 c0 c1 R8 hg8
        have c0 := H8.out.ht.cell 0
        have c1 := H8.out.ht.cell 1
        go_wp2_with fail
        refine (drawNode_any _ gr cs g p8 _ H8.out.rd (by omega) H8.out.ho.grr hl2).mono ?_
        rintro e w9 ⟨t', p9, rfl, R9, hp9, hg9⟩
        have H9 := hide (H8.out.grow hg9 R9)
        clear H8 c0 c1 R9 hg9
        have c0 := H9.out.ht.cell 0
        have c1 := H9.out.ht.cell 1
        go_wp2_with fail
        refine (drawChanged_any _ gr k' t' cs g p9 _ H9.out.rd (by omega) H9.out.ho.grr hl2).mono ?_
        rintro e w10 ⟨cv', ch', p10, rfl, hO10, hlc', R10, hp10, hg10⟩
        obtain ⟨Ac', kc', rfl, _, _⟩ := hO10.lit
        have H10 := hide (H9.out.chg hg10 R10 hO10)
        clear H9 c0 c1 R10 hg10 hO10
        go_wp2
        go_roundg (gk - 1)
        case measure => omega
        case rel => exact ⟨i + 1, k', t', Ac', kc', ch', p10, by omega, rfl, rfl, rfl, by go_num, hlc', by omega, H10⟩
      · have e0 : ((X.length : Int) == 0) = false := by rw [beq_eq_false_iff_ne]; omega
        clear hl0
        have c0 := H7.out.ht.cell 0
        have c1 := H7.out.ht.cell 1
        have o0 := H7.out.hb.cell 0
        have o1 := H7.out.hb.cell 1
        have y0 := H7.out.hb.free 0
        have y1 := H7.out.hb.free 1
        go_wp2_with fail
        obtain ⟨z2, he, h2⟩ := H7.out.ho
        cases he
        have hcc := H7.out.hc
        have hlo : w.heap.size ≤ w1.heap.size := by have := H7.out.gl; have := H7.out.wg; omega
        refine bodyPost_ret (v := .tuple #[.agg #[.int .i64 gr.n, .slice A gr.ls.length cap], .int .i64 k, .int .i64 t, .slice Ac ch.length kc]) (by simp [results, Try.results42, go_sem, o0, o1]) rfl ⟨_, _, gr, _, _, ch, rfl, ⟨_, rfl, (own_far' (own_far' h2 (own_blk_ne h2 H7.out.hb (by decide)) _) (own_blk_ne h2 H7.out.hb (by decide)) _).low hlo⟩, hl2, (own_far' (own_far' hcc (own_blk_ne hcc H7.out.hb (by decide)) _) (own_blk_ne hcc H7.out.hb (by decide)) _).low hlo, hlc, (H7.out.bw.setCell (Nat.le_refl _) _).setCell (Nat.le_refl _) _⟩
    · skip
      have c0 := H.out.ht.cell 0
      have c1 := H.out.ht.cell 1
      have o0 := H.out.hb.cell 0
      have o1 := H.out.hb.cell 1
      have y0 := H.out.hb.free 0
      have y1 := H.out.hb.free 1
      go_wp2_with fail
      obtain ⟨z2, he, h2⟩ := H.out.ho
      cases he
      have hcc := H.out.hc
      have hlo : w.heap.size ≤ w1.heap.size := by have := H.out.gl; have := H.out.wg; omega
      refine bodyPost_ret (v := .tuple #[.agg #[.int .i64 gr.n, .slice A gr.ls.length cap], .int .i64 k, .int .i64 t, .slice Ac ch.length kc]) (by simp [results, Try.results42, go_sem, o0, o1]) rfl ⟨_, _, gr, _, _, ch, rfl, ⟨_, rfl, (own_far' (own_far' h2 (own_blk_ne h2 H.out.hb (by decide)) _) (own_blk_ne h2 H.out.hb (by decide)) _).low hlo⟩, hl2, (own_far' (own_far' hcc (own_blk_ne hcc H.out.hb (by decide)) _) (own_blk_ne hcc H.out.hb (by decide)) _).low hlo, hlc, (H.out.bw.setCell (Nat.le_refl _) _).setCell (Nat.le_refl _) _⟩

set_option maxHeartbeats 800000 in
theorem drawMA_any (v : Value) (bs : List Int) (w : World) (hv : SlR bc 1 w w.heap.size v bs) (hm : bs.length ≤ 9223372036854775807 ∧ ∀ n ∈ bs, 0 ≤ n ∧ n ≤ 255) :
    Calls Try.prog 43 #[v] w (DrawMPost w) := by
  have hb0 := below1 w (Obj.cells #[.int .i64 0, .slice none 0 0] 25)
  have HB0 := hide (Blk.new w 25 #[.int .i64 0, .slice none 0 0])
  have hv0 := hv.up hb0
  go_enter Try.func43, Try.ntmps43
  go_wp2_with fail
  refine (drawML_any v bs _ hv0 hm).mono ?_
  rintro e w1 ⟨v1, cv, gr, k, t, ch, rfl, hO1, hl1, hc1, hlc, hb1⟩
  obtain ⟨A, cap, rfl⟩ := hO1.lit
  obtain ⟨x2, he, h2⟩ := hO1
  cases he
  have HB1 := hide (HB0.out.up hb1)
  have hb01 := hb0.trans (hb1.mono hb0.size)
  have hs0 := hb0.size
  have HO := hide (h2.low hs0)
  have HC := hide (hc1.low hs0)
  have o0 := HB1.out.cell 0
  have o1 := HB1.out.cell 1
  have y0 := HB1.out.free 0
  have y1 := HB1.out.free 1
  clear h2 hc1 HB0 hb0 hv0 hv hb1 hs0 hm
  go_wp2_with fail
  refine bodyPost_ret (v := .tuple #[.agg #[.int .i64 gr.n, .slice A gr.ls.length cap], .int .i64 k, .int .i64 t, cv]) (by simp [results, Try.results43, go_sem, o0, o1]) rfl ⟨_, _, gr, _, _, ch, rfl, ⟨_, rfl, own_far' (own_far' HO.out (own_blk_ne HO.out HB1.out (by decide)) _) (own_blk_ne HO.out HB1.out (by decide)) _⟩, hl1, own_far' (own_far' HC.out (own_blk_ne HC.out HB1.out (by decide)) _) (own_blk_ne HC.out HB1.out (by decide)) _, hlc, (hb01.setCell (Nat.le_refl _) _).setCell (Nat.le_refl _) _⟩
end Go.Proofs.Ytbhkjeicogjfbaa
