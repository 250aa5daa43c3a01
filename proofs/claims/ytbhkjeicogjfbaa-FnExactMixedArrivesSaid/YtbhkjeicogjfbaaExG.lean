/- What the exact laws on graphs keep in memory from call to call. Conditions: none. -/
import Derived.Test.YtbhkjeicogjfbaaGraphE
import Derived.Test.YtbhkjeicogjfbaaInts
import Derived.Test.YtbhkjeicogjfbaaSelI
import Derived.Deep.RegionHeld3
namespace Go.Proofs.Ytbhkjeicogjfbaa
open Go.RowKit

theorem markI_k (v : Value) (cs : List Int) (K : Int) (base : Nat) (w : World) (hO : Own ic 3 1 w base v cs) (hn : cs.length ≤ 1048576) (hK : K = 1 + (cs.length : Int)) :
    Calls Try.prog 34 #[v, .int .i64 1] w fun e w' => e = .returned (.int .i64 K) ∧ Own ic 3 1 w' base v (marksI cs.length 1) ∧ w.grownBy w' v.ownBlock := by
  rw [hK]
  exact markI_any v cs 1 base w hO hn (by decide)
theorem heldI_k (v : Value) (n : Nat) (K : Int) (w : World) (hv : SlR ic 1 w w.heap.size v (marksI n 1)) (hn : n ≤ 1048576) (hK : K = 1 + (n : Int)) :
    Calls Try.prog 35 #[v, .int .i64 1] w fun e w' => e = .returned (.int .i64 K) ∧ w' = w := by
  rw [hK]
  have h := heldI_any v (marksI n 1) 1 w hv (by rw [marksI_len]; exact hn) (by decide) (by rw [marksI_len])
  rw [marksI_len] at h
  exact h
structure ExG (w W : World) (b0 : Nat) (c0 : Array Value) (y g : Value) (R G : List Int) : Prop where
  bw : Below w.heap.size w W
  t3 : Blk W b0 41 c0
  oy : Own ic 3 1 W w.heap.size y R
  og : Own ic 3 1 W w.heap.size g G
  dis : ∀ q, y.ownBlock = some q → g.ownBlock ≠ some q
structure ExGX (w W : World) (b0 bZ : Nat) (c0 cZ : Array Value) (y g : Value) (R G : List Int) (x : Value) (gx : Gr) : Prop where
  e : ExG w W b0 c0 y g R G
  tz : Blk W bZ 25 cZ
  ox : OwnG W w.heap.size x gx
section
variable {w W W' : World} {b0 bZ : Nat} {c0 cZ : Array Value} {y g x : Value} {R G : List Int} {gx : Gr}
theorem ExG.below (h : ExG w W b0 c0 y g R G) (hb : Below W.heap.size W W') : ExG w W' b0 c0 y g R G :=
  ⟨h.bw.trans (hb.mono h.bw.size), h.t3.up hb, h.oy.below hb, h.og.below hb, h.dis⟩
theorem ExGX.below (h : ExGX w W b0 bZ c0 cZ y g R G x gx) (hb : Below W.heap.size W W') : ExGX w W' b0 bZ c0 cZ y g R G x gx :=
  ⟨h.e.below hb, h.tz.up hb, h.ox.below hb⟩
theorem ExGX.drew (h : ExGX w W b0 bZ c0 cZ y g R G x gx) : ExGX w W.drew b0 bZ c0 cZ y g R G x gx := h.below ((Below.refl _ _).drew)
theorem own_notG {base base' : Nat} {v : Value} {l : List Int} (h : Own ic 3 1 W base v l) (hx : OwnG W base' x gx) : ∀ q, v.ownBlock = some q → ¬ InG x q := by
  obtain ⟨v2, rfl, h2⟩ := hx
  rintro q hq ⟨n, x2, hxe, hq2⟩
  cases hxe
  exact own_types h h2 (by decide) q hq hq2
theorem ExGX.mark (h : ExGX w W b0 bZ c0 cZ y g R G x gx) (hm : MarkF x W W') (hb : w.heap.size ≤ W.heap.size → Below w.heap.size W W') : ExG w W' b0 c0 y g R G :=
  ⟨h.e.bw.trans (hb h.e.bw.size), (hm.2 b0 h.e.t3.lt (by
      obtain ⟨v2, hx, h2⟩ := h.ox
      rintro ⟨n, x2, hxe, hq⟩
      rw [hx] at hxe
      cases hxe
      exact own_blk_ne h2 h.e.t3 (by decide) hq)).trans h.e.t3,
    h.e.oy.keep fun q hq => hm.2 q (World.ownsRow.lt h.e.oy q hq).2 (own_notG h.e.oy h.ox q hq),
    h.e.og.keep fun q hq => hm.2 q (World.ownsRow.lt h.e.og q hq).2 (own_notG h.e.og h.ox q hq), h.e.dis⟩
theorem ExG.mark {G' : List Int} (h : ExG w W b0 c0 y g R G) (hg : Own ic 3 1 W' w.heap.size g G') (hm : W.grownBy W' g.ownBlock) : ExG w W' b0 c0 y g R G' :=
  ⟨h.bw.trans (below_only hm h.bw.size fun q hq => (World.ownsRow.lt h.og q hq).1), h.t3.grown hm (fun he => own_blk_ne h.og h.t3 (by decide) he.symm),
    own_grown h.oy hm (fun q hq => h.dis q hq), hg, h.dis⟩
end
theorem okL_len {p : Prop} {l : List Int} {n : Nat} (h : p → l.length ≤ n) : (okL p l).length ≤ n := by
  by_cases hp : p
  · rw [okL_yes hp]; exact h hp
  · rw [okL_no hp]; simp
theorem safeL_len (g : Gr) (f k : Int) : (safeL g f k).length ≤ 8 := okL_len fun h => selTo_le _ _ (by have := h.1.n; omega)
theorem needL_len (g : Gr) (f k : Int) : (needL g f k).length ≤ 8 := okL_len fun h => selTo_le _ _ (by have := h.1.n; omega)
end Go.Proofs.Ytbhkjeicogjfbaa
