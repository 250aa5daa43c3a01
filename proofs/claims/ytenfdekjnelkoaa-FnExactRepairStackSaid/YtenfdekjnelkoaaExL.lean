/- What the exact law on RepairStack keeps in memory from call to call. Conditions: none. -/
import Derived.Test.YtenfdekjnelkoaaExG
import Derived.Test.YtenfdekjnelkoaaLbW
namespace Go.Proofs.Ytenfdekjnelkoaa
open Go.RowKit
theorem markL_k (v : Value) (cs : List Lb) (K : Int) (base : Nat) (w : World) (hO : Own lbc 57 2 w base v cs) (hn : cs.length ≤ 1048576) (hK : K = 1 + 2 * (cs.length : Int)) :
    Calls Try.prog 41 #[v, .int .i64 1] w fun e w' => e = .returned (.int .i64 K) ∧ Own lbc 57 2 w' base v (marksL cs.length 1) ∧ w.grownBy w' v.ownBlock := by
  rw [hK]
  exact markL_any v cs base w hO hn
theorem heldL_k (v : Value) (n : Nat) (K : Int) (w : World) (hv : SlR lbc 2 w w.heap.size v (marksL n 1)) (hn : n ≤ 1048576) (hK : K = 1 + 2 * (n : Int)) :
    Calls Try.prog 42 #[v, .int .i64 1] w fun e w' => e = .returned (.int .i64 K) ∧ w' = w := by
  rw [hK]
  have h := heldL_any v (marksL n 1) w hv (by rw [marksL_len]; exact hn) (by rw [marksL_len])
  rw [marksL_len] at h
  exact h
structure ExL (w W : World) (b0 : Nat) (c0 : Array Value) (y g : Value) (R G : List Lb) : Prop where
  bw : Below w.heap.size w W
  t3 : Blk W b0 40 c0
  oy : Own lbc 57 2 W w.heap.size y R
  og : Own lbc 57 2 W w.heap.size g G
  dis : ∀ q, y.ownBlock = some q → g.ownBlock ≠ some q
structure ExLX (w W : World) (b0 bZ : Nat) (c0 cZ : Array Value) (y g : Value) (R G : List Lb) (x : Value) (gx : Gr) : Prop where
  e : ExL w W b0 c0 y g R G
  tz : Blk W bZ 25 cZ
  ox : OwnG W w.heap.size x gx
section
variable {w W W' : World} {b0 bZ : Nat} {c0 cZ : Array Value} {y g x : Value} {R G : List Lb} {gx : Gr}
theorem ExL.below (h : ExL w W b0 c0 y g R G) (hb : Below W.heap.size W W') : ExL w W' b0 c0 y g R G :=
  ⟨h.bw.trans (hb.mono h.bw.size), h.t3.up hb, h.oy.below hb, h.og.below hb, h.dis⟩
theorem ExLX.below (h : ExLX w W b0 bZ c0 cZ y g R G x gx) (hb : Below W.heap.size W W') : ExLX w W' b0 bZ c0 cZ y g R G x gx :=
  ⟨h.e.below hb, h.tz.up hb, h.ox.below hb⟩
theorem ExLX.drew (h : ExLX w W b0 bZ c0 cZ y g R G x gx) : ExLX w W.drew b0 bZ c0 cZ y g R G x gx := h.below ((Below.refl _ _).drew)
theorem own_notGL {base base' : Nat} {v : Value} {l : List Lb} (h : Own lbc 57 2 W base v l) (hx : OwnG W base' x gx) : ∀ q, v.ownBlock = some q → ¬ InG x q := by
  obtain ⟨v2, rfl, h2⟩ := hx
  rintro q hq ⟨n, x2, hxe, hq2⟩
  cases hxe
  exact own_types h h2 (by decide) q hq hq2
theorem ExLX.mark (h : ExLX w W b0 bZ c0 cZ y g R G x gx) (hm : MarkF x W W') (hb : w.heap.size ≤ W.heap.size → Below w.heap.size W W') : ExL w W' b0 c0 y g R G :=
  ⟨h.e.bw.trans (hb h.e.bw.size), (hm.2 b0 h.e.t3.lt (by
      obtain ⟨v2, hx, h2⟩ := h.ox
      rintro ⟨n, x2, hxe, hq⟩
      rw [hx] at hxe
      cases hxe
      exact own_blk_ne h2 h.e.t3 (by decide) hq)).trans h.e.t3,
    h.e.oy.keep fun q hq => hm.2 q (World.ownsRow.lt h.e.oy q hq).2 (own_notGL h.e.oy h.ox q hq),
    h.e.og.keep fun q hq => hm.2 q (World.ownsRow.lt h.e.og q hq).2 (own_notGL h.e.og h.ox q hq), h.e.dis⟩
theorem ExL.mark {G' : List Lb} (h : ExL w W b0 c0 y g R G) (hg : Own lbc 57 2 W' w.heap.size g G') (hm : W.grownBy W' g.ownBlock) : ExL w W' b0 c0 y g R G' :=
  ⟨h.bw.trans (below_only hm h.bw.size fun q hq => (World.ownsRow.lt h.og q hq).1), h.t3.grown hm (fun he => own_blk_ne h.og h.t3 (by decide) he.symm),
    own_grown h.oy hm (fun q hq => h.dis q hq), hg, h.dis⟩
end
end Go.Proofs.Ytenfdekjnelkoaa
