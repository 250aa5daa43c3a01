/- The words and small laws that every walk of this seat uses; no function of the program is spoken of here. Conditions: none. -/
import Derived.Test.YtbhkjeicogjfbaaRows
import Derived.WalkKit
import Derived.WalkSpells
import Derived.WalkLawsBesides
import Derived.BigQuiet
import Derived.Deep.DeepCutAuto
import Derived.Deep.Draws
import Derived.Deep.LoopGhost
import Derived.Deep.Light
import Derived.Outline
namespace Go.Proofs.Ytbhkjeicogjfbaa
open Go.RowKit

theorem hide {p : Prop} (h : p) : Hid p := h
/-- A proposition as a Bool that no simp looks into. -/
noncomputable def tb (p : Prop) : Bool := open Classical in decide p
theorem tb_yes {p : Prop} (h : p) : tb p = true := by unfold tb; simp [h]
theorem tb_no {p : Prop} (h : ¬ p) : tb p = false := by unfold tb; simp [h]
theorem tb_iff {p q : Prop} (h : p ↔ q) : tb p = tb q := by rw [propext h]
theorem tb_spec {p : Prop} (h : tb p = true) : p := by
  by_cases hp : p
  · exact hp
  · rw [tb_no hp] at h; cases h
noncomputable def eqB {α : Type} (a b : α) : Bool := tb (a = b)
theorem eqB_yes {α : Type} {a b : α} (h : a = b) : eqB a b = true := tb_yes h
theorem eqB_no {α : Type} {a b : α} (h : a ≠ b) : eqB a b = false := tb_no h
theorem eqB_self {α : Type} (a : α) : eqB a a = true := eqB_yes rfl
theorem list_eq {α : Type} {l m : List α} (hl : l.length = m.length) (h : ∀ i, i < l.length → l[i]? = m[i]?) : l = m := by
  apply List.ext_getElem?
  intro i
  rcases Nat.lt_or_ge i l.length with hi | hi
  · exact h i hi
  · rw [List.getElem?_eq_none hi, List.getElem?_eq_none (by omega)]
theorem get_lt {α : Type} {l : List α} {i : Nat} {x : α} (h : l[i]? = some x) : i < l.length := (List.getElem?_eq_some_iff.1 h).1
theorem get_some {α : Type} {l : List α} {i : Nat} (h : i < l.length) : ∃ x, l[i]? = some x := ⟨_, List.getElem?_eq_getElem h⟩
theorem ret_bool {a b : Bool} (h : a = b) : Ending.returned (.bool a) = .returned (.bool b) := by rw [h]
theorem ret_i64 {a b : Int} (h : a = b) : Ending.returned (.int .i64 a) = .returned (.int .i64 b) := by rw [h]

/-! ### Worlds above a world -/
/-- What may have been added to a world: blocks, draws. -/
structure More where
  blocks : Array Obj
  drawn : Nat
instance : Inhabited More := ⟨⟨#[], 0⟩⟩
def wext (w : World) (x : More) : World := { w with heap := w.heap ++ x.blocks, drawn := x.drawn }

theorem wext_below (w : World) (x : More) : Below w.heap.size w (wext w x) :=
  ⟨rfl, rfl, rfl, by simp [wext], fun k hk => by simp [wext, Array.getElem?_append_left hk]⟩

theorem below_wext {w w' : World} (h : Below w.heap.size w w') : ∃ x, w' = wext w x := by
  refine ⟨⟨w'.heap.extract w.heap.size w'.heap.size, w'.drawn⟩, ?_⟩
  obtain ⟨hp, tp, dr, os, ou⟩ := w'
  obtain ⟨h1, h2, h3, h4, h5⟩ := h
  simp only at h1 h2 h3 h4 h5
  subst h1 h2 h3
  simp only [wext]
  congr 1
  apply Array.ext_getElem?
  intro i
  rcases Nat.lt_or_ge i w.heap.size with hi | hi
  · rw [h5 i hi, Array.getElem?_append_left hi]
  · rw [Array.getElem?_append_right hi, Array.getElem?_extract]
    split
    · congr 1; omega
    · rw [Array.getElem?_eq_none (by omega)]

theorem wext_cell (w : World) (x : More) {p : Addr} {v : Value} (h : w.cell? p = some v) : (wext w x).cell? p = some v := by
  have hb : p.block < w.heap.size := World.block_lt_of_cell? w p h
  exact ((wext_below w x).cell hb).trans h

theorem q_call {P : Program} {f : FuncId} {args : Array Value} {w : World} {x : More} {v : Value}
    (h : Calls P f args (wext w x) fun e w' => e = .returned v ∧ Below (wext w x).heap.size (wext w x) w') :
    Calls P f args (wext w x) fun e w'' => e = .returned v ∧ ∃ y, w'' = wext w y :=
  h.mono fun _ _ ⟨he, hb⟩ => ⟨he, below_wext ((wext_below w x).trans (hb.mono (wext_below w x).size))⟩

theorem q_same {P : Program} {f : FuncId} {args : Array Value} {w : World} {x : More} {v : Value}
    (h : Calls P f args (wext w x) fun e w' => e = .returned v ∧ w' = wext w x) :
    Calls P f args (wext w x) fun e w'' => e = .returned v ∧ ∃ y, w'' = wext w y :=
  h.mono fun _ _ ⟨he, hb⟩ => ⟨he, x, hb⟩

theorem wpQuiet_mono {P : Program} {C : World → Prop} : ∀ (l' : List Oper) (ops : Array Oper) (a : Act) (R S : Act → Prop), (∀ a, R a → S a) → wpQuiet P ops C R l' a → wpQuiet P ops C S l' a := by
  intro l'
  induction l' with
  | nil => intro ops a R S hRS h; exact hRS _ h
  | cons o l' ih =>
    intro ops a R S hRS h
    unfold wpQuiet at h ⊢
    split
    · rename_i hw
      rw [if_pos hw] at h
      exact Oper.quiet_mono (fun a' => ih ops a' R S hRS) h
    · rename_i hw
      rw [if_neg hw] at h
      exact ih ops _ R S hRS h

/-- A region that draws, whose operations only read and whose callees leave old memory as it was. -/
theorem region_q {P : Program} {id : Nat} {Q : Exit → Act → World → Prop} {a : Act} {w : World} {l : List Oper} (hm : P.follows .mixedOrders = true) (hB : Region.lexB .any l.toArray = true)
    (h : wpQuiet P l.toArray (fun w' => ∃ x, w' = wext w x) (fun a' => ∀ w', Below w.heap.size w w' → Q .normal a' w') l a) : (Code.region id l.toArray true).wp P Q a w :=
  wp_region_quiet (C := fun w' => ∃ x, w' = wext w x) hm hB ⟨⟨#[], w.drawn + 1⟩, by simp [wext]⟩ (by
    have h' := wpQuiet_mono _ _ _ _ (fun a' => ∀ w', (∃ x, w' = wext w x) → Q .normal a' w') (fun a' h w' ⟨x, hx⟩ => h w' (hx ▸ wext_below w x)) h
    simpa using h')

/-! ### Lists of rows of cells -/
theorem flat_get {α : Type} {enc : α → List Value} {s : Nat} (hs : ∀ x, (enc x).length = s) : ∀ {l : List α} {i j : Nat} {x : α} {u : Value},
    l[i]? = some x → (enc x)[j]? = some u → (l.flatMap enc)[i * s + j]? = some u
  | [], i, j, x, u, h, _ => by simp at h
  | y :: l, 0, j, x, u, h, hu => by
    simp at h
    subst h
    rw [List.flatMap_cons, Nat.zero_mul, Nat.zero_add, List.getElem?_append_left (List.getElem?_eq_some_iff.1 hu).1]
    exact hu
  | y :: l, i + 1, j, x, u, h, hu => by
    have h' : l[i]? = some x := by simpa using h
    rw [List.flatMap_cons, List.getElem?_append_right (by rw [hs, Nat.succ_mul]; omega), hs, show (i + 1) * s + j - s = i * s + j from by rw [Nat.succ_mul]; omega]
    exact flat_get hs h' hu

theorem flat_len {α : Type} {enc : α → List Value} {s : Nat} (hs : ∀ x, (enc x).length = s) (l : List α) : (l.flatMap enc).length = l.length * s := by
  induction l with
  | nil => simp
  | cons y l ih => rw [List.flatMap_cons, List.length_append, hs, ih, List.length_cons, Nat.succ_mul]; omega

/-- The rows of cells of the list l lie in block b from off on. -/
def RowsAt {α : Type} (enc : α → List Value) (s : Nat) (w : World) (b off : Nat) (l : List α) : Prop :=
  ∀ i x, l[i]? = some x → ∀ j u, (enc x)[j]? = some u → w.cell? ⟨b, off + i * s + j, none⟩ = some u

/-- The slice value v reads as the list l, and lies below block B. -/
def SlR {α : Type} (enc : α → List Value) (s : Nat) (w : World) (B : Nat) (v : Value) (l : List α) : Prop :=
  ∃ A cap, v = .slice A l.length cap ∧ l.length ≤ cap ∧ (0 < l.length → ∃ b off, A = some ⟨b, off, none⟩ ∧ b < B ∧ RowsAt enc s w b off l)

section
variable {α : Type} {enc : α → List Value} {s : Nat} {w w' : World} {B B' b off : Nat} {v : Value} {l : List α}
theorem RowsAt.keep (h : RowsAt enc s w b off l) (hk : ∀ p : Addr, p.block = b → w'.cell? p = w.cell? p) : RowsAt enc s w' b off l :=
  fun i x hx j u hu => (hk _ rfl).trans (h i x hx j u hu)
theorem SlR.keep (h : SlR enc s w B v l) (hk : ∀ p : Addr, p.block < B → w'.cell? p = w.cell? p) : SlR enc s w' B v l := by
  obtain ⟨A, cap, rfl, hc, hr⟩ := h
  refine ⟨A, cap, rfl, hc, fun hl => ?_⟩
  obtain ⟨b, off, rfl, hb, hcell⟩ := hr hl
  exact ⟨b, off, rfl, hb, hcell.keep fun p hp => hk p (by omega)⟩
theorem SlR.more (h : SlR enc s w B v l) (hB : B ≤ B') : SlR enc s w B' v l := by
  obtain ⟨A, cap, rfl, hc, hr⟩ := h
  refine ⟨A, cap, rfl, hc, fun hl => ?_⟩
  obtain ⟨b, off, rfl, hb, hcell⟩ := hr hl
  exact ⟨b, off, rfl, by omega, hcell⟩
theorem SlR.below (h : SlR enc s w B v l) (hb : Below B w w') : SlR enc s w' B v l := h.keep fun _ hp => hb.cell hp
/-- Carried over a call: from the heap's size before to the heap's size behind. -/
theorem SlR.up (h : SlR enc s w w.heap.size v l) (hb : Below w.heap.size w w') : SlR enc s w' w'.heap.size v l := (h.below hb).more hb.size

/-- A slice of the call's own, from block 'base' on. -/
def Own (enc : α → List Value) (e s : Nat) (w : World) (base : Nat) (v : Value) (l : List α) : Prop := w.ownsRow base e s v l.length (l.flatMap enc)

variable {e base : Nat}
theorem Own.slr (hs : ∀ x, (enc x).length = s) (h : Own enc e s w base v l) : SlR enc s w w.heap.size v l := by
  rcases h.2 with ⟨rfl, hn⟩ | ⟨g, cap, cur, rfl, hg, hh, hnc, hcm, hcs, ht⟩
  · exact ⟨none, 0, by rw [hn], by omega, fun h => absurd h (by omega)⟩
  · refine ⟨some ⟨g, 0, none⟩, cap, rfl, hnc, fun _ => ⟨g, 0, rfl, (Array.getElem?_eq_some_iff.1 hh).1, fun i x hx j u hu => ?_⟩⟩
    have hc := flat_get hs hx hu
    rw [cell_of_row w g _ cur e (0, 0) hh, Nat.zero_add]
    rw [← ht, List.getElem?_take] at hc
    split at hc
    · simpa using hc
    · cases hc
theorem Own.nil (enc : α → List Value) (e s : Nat) (w : World) (base : Nat) : Own enc e s w base (.slice none 0 0) [] := World.ownsRow_nil w base e s
theorem Own.keep (h : Own enc e s w base v l) (hk : ∀ g, v.ownBlock = some g → w'.heap[g]? = w.heap[g]?) : Own enc e s w' base v l := by
  refine ⟨h.1, ?_⟩
  rcases h.2 with hn | ⟨g, cap, cur, rfl, hg, hh, r⟩
  · exact .inl hn
  · exact .inr ⟨g, cap, cur, rfl, hg, by rw [hk g rfl]; exact hh, r⟩
theorem Own.below (h : Own enc e s w base v l) (hb : Below w.heap.size w w') : Own enc e s w' base v l :=
  h.keep fun g hg => hb.block g (World.ownsRow.lt h g hg).2
theorem Own.low {base' : Nat} (h : Own enc e s w base v l) (hb : base' ≤ base) : Own enc e s w base' v l := by
  refine ⟨h.1, ?_⟩
  rcases h.2 with hn | ⟨g, cap, cur, rfl, hg, hh, r⟩
  · exact .inl hn
  · exact .inr ⟨g, cap, cur, rfl, by omega, hh, r⟩
end

theorem flat_set {α : Type} {enc : α → List Value} {s : Nat} (hs : ∀ x, (enc x).length = s) : ∀ {l : List α} {k j : Nat} {x y : α} {u : Value}, l[k]? = some x → j < s → enc y = (enc x).set j u →
    (l.flatMap enc).set (k * s + j) u = (l.set k y).flatMap enc
  | [], k, j, x, y, u, h, _, _ => by simp at h
  | z :: l, 0, j, x, y, u, h, hj, he => by
    simp at h
    subst h
    rw [List.flatMap_cons, Nat.zero_mul, Nat.zero_add, List.set_append_left _ _ (by rw [hs]; exact hj), List.set_cons_zero, List.flatMap_cons, he]
  | z :: l, k + 1, j, x, y, u, h, hj, he => by
    have h' : l[k]? = some x := by simpa using h
    rw [List.flatMap_cons, List.set_append_right _ _ (by rw [hs, Nat.succ_mul]; omega), hs, show (k + 1) * s + j - s = k * s + j from by rw [Nat.succ_mul]; omega, List.set_cons_succ, List.flatMap_cons, flat_set hs h' hj he]
theorem Own.form {α : Type} {enc : α → List Value} {e s base : Nat} {w : World} {v : Value} {l : List α} (h : Own enc e s w base v l) (hn : 0 < l.length) :
    ∃ g cap, v = .slice (some ⟨g, 0, none⟩) l.length cap ∧ base ≤ g ∧ g < w.heap.size := by
  rcases h.2 with ⟨_, h0⟩ | ⟨g, cap, cur, hv, hb, hg, _⟩
  · omega
  · exact ⟨g, cap, hv, hb, (Array.getElem?_eq_some_iff.1 hg).1⟩
/-- A store into an owned slice. -/
theorem Own.set {α : Type} {enc : α → List Value} {e s base g cap : Nat} {w : World} {l : List α} (hs : ∀ x, (enc x).length = s) {n k j : Nat} {x y : α} {u : Value} (h : Own enc e s w base (.slice (some ⟨g, 0, none⟩) n cap) l) (hn : n = l.length) (hk : l[k]? = some x) (hj : j < s) (he : enc y = (enc x).set j u) :
    Own enc e s (w.setCell ⟨g, k * s + j, none⟩ u) base (.slice (some ⟨g, 0, none⟩) n cap) (l.set k y) := by
  subst hn
  unfold Own
  rw [List.length_set, ← flat_set hs hk hj he]
  exact (World.ownsRow.stored h _ _).1
theorem Own.slot {α : Type} {enc : α → List Value} {e s base g cap n : Nat} {w : World} {l : List α} {k j : Nat} (h : Own enc e s w base (.slice (some ⟨g, 0, none⟩) n cap) l) (hn : n = l.length) (hk : k < l.length) (hj : j < s) :
    (∃ u, w.cell? ⟨g, k * s + j, none⟩ = some u) ∧ w.frozen? ⟨g, k * s + j, none⟩ = false := by
  subst hn
  have hlt : k * s + j < l.length * s := Nat.lt_of_lt_of_le (by omega : k * s + j < k * s + s) (by rw [← Nat.succ_mul]; exact Nat.mul_le_mul_right _ hk)
  refine ⟨?_, World.ownsRow.frozenAt h _⟩
  have hl := h.1
  exact ⟨_, (World.ownsRow.cellAt h _ hlt).trans (List.getElem?_eq_getElem (by rw [hl]; exact hlt))⟩
theorem Own.only {α : Type} {enc : α → List Value} {e s base g : Nat} {w w' : World} {v : Value} {l : List α} (h : Own enc e s w base v l) (hg : w.grownBy w' (some g)) (hb : g < base) : Own enc e s w' base v l :=
  h.keep fun k hk => hg.block k (World.ownsRow.lt h k hk).2 (fun e => by have := (World.ownsRow.lt h k hk).1; injection e; omega)
theorem news_at (w : World) (t : TypeId) (l : List Value) : ∀ j u, l[j]? = some u → (w.alloc (.cells l.toArray t)).cell? ((⟨w.heap.size, 0, none⟩ : Addr).add j) = some u := by
  intro j u hu
  have ha : (⟨w.heap.size, 0, none⟩ : Addr).add j = ⟨w.heap.size, j, none⟩ := by unfold Addr.add; split <;> simp_all
  rw [ha, cell_of_row (w.alloc (.cells l.toArray t)) w.heap.size j l.toArray t (0, 0) (heap_alloc_new w _)]
  simpa using hu
theorem only_own {a w w' : World} {g : Nat} {row : Option Nat} (h : a.grownBy w (some g)) (hg : w.grownBy w' row) (hr : ∀ k, row = some k → a.heap.size ≤ k) : a.grownBy w' (some g) :=
  ⟨hg.os.trans h.os, hg.tape.trans h.tape, hg.output.trans h.output, Nat.le_trans h.size hg.size, fun i hi hne => (hg.block i (Nat.lt_of_lt_of_le hi h.size) (fun e => by have := hr i e.symm; omega)).trans (h.block i hi hne)⟩
theorem only_alloc {a w : World} {row : Option Nat} (h : a.grownBy w row) (o : Obj) : a.grownBy (w.alloc o) row :=
  ⟨h.os, h.tape, h.output, Nat.le_trans h.size (by simp), fun i hi hne => (Below.heap_alloc w o i (Nat.lt_of_lt_of_le hi h.size)).trans (h.block i hi hne)⟩

/-- One byte's row of cells. -/
def bc (n : Int) : List Value := [.int .u8 n]
theorem bc_len (n : Int) : (bc n).length = 1 := rfl
/-- One int's row of cells. -/
def ic (n : Int) : List Value := [.int .i64 n]
theorem ic_len (n : Int) : (ic n).length = 1 := rfl
theorem rowAt1 {w : World} {b off k : Nat} {l : List Int} {n : Int} {f : Int → List Value} {u : Value} (h : RowsAt f 1 w b off l) (hk : l[k]? = some n) (hf : f n = [u]) : w.cell? ⟨b, off + k, none⟩ = some u := by
  have := h k n hk 0 u (by rw [hf]; rfl)
  rwa [Nat.mul_one, Nat.add_zero] at this

/-! ### A block that is known whole -/
def Blk (w : World) (g : Nat) (t : TypeId) (cs : Array Value) : Prop := w.heap[g]? = some (.cells cs t (0, 0))

section
variable {w w' : World} {g : Nat} {t : TypeId} {cs : Array Value}
theorem Blk.lt (h : Blk w g t cs) : g < w.heap.size := by
  rcases Nat.lt_or_ge g w.heap.size with hlt | hge
  · exact hlt
  · unfold Blk at h; rw [Array.getElem?_eq_none hge] at h; cases h
theorem Blk.cell (h : Blk w g t cs) (i : Nat) : w.cell? ⟨g, i, none⟩ = cs[i]? := cell_of_row w g i cs t (0, 0) h
theorem Blk.free (h : Blk w g t cs) (i : Nat) : w.frozen? ⟨g, i, none⟩ = false := by
  unfold Blk at h
  simp [World.frozen?, h]
theorem Blk.slot (h : Blk w g t cs) {i : Nat} (hi : i < cs.size) : ∃ u, w.cell? ⟨g, i, none⟩ = some u := ⟨cs[i], by rw [h.cell]; exact Array.getElem?_eq_getElem hi⟩
theorem Blk.new (w : World) (t : TypeId) (cs : Array Value) : Blk (w.alloc (.cells cs t)) w.heap.size t cs := heap_alloc_new w _
theorem Blk.alloc (h : Blk w g t cs) (o : Obj) : Blk (w.alloc o) g t cs := (Below.heap_alloc w o g h.lt).trans h
theorem Blk.put (h : Blk w g t cs) (i : Nat) (u : Value) : Blk (w.setCell ⟨g, i, none⟩ u) g t (cs.setIfInBounds i u) := by
  unfold Blk at h ⊢
  simp [World.setCell, Array.getElem?_modify, h]
theorem Blk.far (h : Blk w g t cs) {p : Addr} (hp : g ≠ p.block) (u : Value) : Blk (w.setCell p u) g t cs := (Below.heap_setCell w p u g hp).trans h
theorem Blk.below {B : Nat} (h : Blk w g t cs) (hb : Below B w w') (hg : g < B) : Blk w' g t cs := (hb.block g hg).trans h
theorem Blk.up (h : Blk w g t cs) (hb : Below w.heap.size w w') : Blk w' g t cs := h.below hb h.lt
theorem Blk.grown {row : Option Nat} (h : Blk w g t cs) (hb : w.grownBy w' row) (hg : some g ≠ row) : Blk w' g t cs := (hb.block g h.lt hg).trans h
/-- A block whose first cells are the rows of l is an owned slice of l. -/
theorem Blk.own {α : Type} {enc : α → List Value} {s base cap : Nat} {l : List α} (h : Blk w g t cs) (hb : base ≤ g) (hn : l.length ≤ cap) (hm : cap ≤ maxLen) (hsz : cs.size = cap * s)
    (ht : cs.toList.take (l.length * s) = l.flatMap enc) (hl : (l.flatMap enc).length = l.length * s) : Own enc t s w base (.slice (some ⟨g, 0, none⟩) l.length cap) l :=
  ⟨hl, .inr ⟨g, cap, cs, rfl, hb, h, hn, hm, hsz, ht⟩⟩
end

/-- An array of cells that reads row by row as the list l begins with the list's flat cells. -/
theorem take_flat {α : Type} {enc : α → List Value} {s : Nat} (hs : ∀ x, (enc x).length = s) {l : List α} {cs : Array Value} (hsz : l.length * s ≤ cs.size)
    (h : ∀ i x, l[i]? = some x → ∀ j u, (enc x)[j]? = some u → cs[i * s + j]? = some u) : cs.toList.take (l.length * s) = l.flatMap enc := by
  apply List.ext_getElem?
  intro k
  by_cases hk : k < l.length * s
  · have hs0 : 0 < s := by rcases Nat.eq_zero_or_pos s with h0 | h0; · subst h0; simp at hk
                           · exact h0
    have hi : k / s < l.length := Nat.div_lt_of_lt_mul (by rw [Nat.mul_comm]; exact hk)
    have hx : l[k / s]? = some l[k / s] := List.getElem?_eq_getElem hi
    have hj : k % s < (enc l[k / s]).length := by rw [hs]; exact Nat.mod_lt _ hs0
    have hu : (enc l[k / s])[k % s]? = some (enc l[k / s])[k % s] := List.getElem?_eq_getElem hj
    have hkk : k / s * s + k % s = k := by rw [Nat.mul_comm]; exact Nat.div_add_mod k s
    have h1 := h _ _ hx _ _ hu
    have h2 := flat_get hs hx hu
    rw [hkk] at h1 h2
    rw [List.getElem?_take, if_pos hk, h2]
    simpa using h1
  · rw [List.getElem?_take, if_neg hk, List.getElem?_eq_none (by rw [flat_len hs]; omega)]

theorem rows_step3 {α : Type} {enc : α → List Value} (hs : ∀ x, (enc x).length = 3) {l : List α} {cur : Array Value} {k : Nat} {c : α} {u0 u1 u2 : Value} (he : enc c = [u0, u1, u2]) (hk : l[k]? = some c) (hsz : k * 3 + 2 < cur.size)
    (H : ∀ i x, i < k → l[i]? = some x → ∀ j u, (enc x)[j]? = some u → cur[i * 3 + j]? = some u) :
    ∀ i x, i < k + 1 → l[i]? = some x → ∀ j u, (enc x)[j]? = some u → (((cur.setIfInBounds (k * 3) u0).setIfInBounds (k * 3 + 1) u1).setIfInBounds (k * 3 + 2) u2)[i * 3 + j]? = some u := by
  intro i x hi hx j u hu
  have hj : j < 3 := by rw [← hs x]; exact (List.getElem?_eq_some_iff.1 hu).1
  rcases Nat.lt_succ_iff_lt_or_eq.1 hi with h | h
  · rw [Array.getElem?_setIfInBounds_ne (by omega), Array.getElem?_setIfInBounds_ne (by omega), Array.getElem?_setIfInBounds_ne (by omega)]
    exact H i x h hx j u hu
  · subst h
    rw [hk] at hx
    cases hx
    rw [he] at hu
    match j, hj with
    | 0, _ => rw [Array.getElem?_setIfInBounds_ne (by omega), Array.getElem?_setIfInBounds_ne (by omega), Nat.add_zero, Array.getElem?_setIfInBounds_self_of_lt (by omega)]; simpa using hu
    | 1, _ => rw [Array.getElem?_setIfInBounds_ne (by omega), Array.getElem?_setIfInBounds_self_of_lt (by simp; omega)]; simpa using hu
    | 2, _ => rw [Array.getElem?_setIfInBounds_self_of_lt (by simp; omega)]; simpa using hu

theorem rows_step1 {α : Type} {enc : α → List Value} (hs : ∀ x, (enc x).length = 1) {l : List α} {cur : Array Value} {k : Nat} {c : α} {u0 : Value} (he : enc c = [u0]) (hk : l[k]? = some c) (hsz : k < cur.size)
    (H : ∀ i x, i < k → l[i]? = some x → ∀ j u, (enc x)[j]? = some u → cur[i * 1 + j]? = some u) :
    ∀ i x, i < k + 1 → l[i]? = some x → ∀ j u, (enc x)[j]? = some u → (cur.setIfInBounds k u0)[i * 1 + j]? = some u := by
  intro i x hi hx j u hu
  have hj : j < 1 := by rw [← hs x]; exact (List.getElem?_eq_some_iff.1 hu).1
  rcases Nat.lt_succ_iff_lt_or_eq.1 hi with h | h
  · rw [Array.getElem?_setIfInBounds_ne (by omega)]
    exact H i x h hx j u hu
  · subst h
    rw [hk] at hx
    cases hx
    rw [he] at hu
    match j, hj with
    | 0, _ => rw [Nat.mul_one, Nat.add_zero, Array.getElem?_setIfInBounds_self_of_lt (by omega)]; simpa using hu

theorem below1 (w : World) (a : Obj) : Below w.heap.size w (w.alloc a) := (Below.refl _ _).alloc (Nat.le_refl _) _
theorem below2 (w : World) (a b : Obj) : Below w.heap.size w ((w.alloc a).alloc b) := (below1 w a).alloc (by simp) _
theorem below3 (w : World) (a b c : Obj) : Below w.heap.size w (((w.alloc a).alloc b).alloc c) := (below2 w a b).alloc (by simp; omega) _
theorem below4 (w : World) (a b c d : Obj) : Below w.heap.size w ((((w.alloc a).alloc b).alloc c).alloc d) := (below3 w a b c).alloc (by simp; omega) _
theorem below_only {B : Nat} {w w' : World} {row : Option Nat} (hg : w.grownBy w' row) (hB : B ≤ w.heap.size) (hr : ∀ k, row = some k → B ≤ k) : Below B w w' := (Below.refl B w).grown hg hB hr

theorem run_make_n {P : Program} (t e : TypeId) (i : TypeInfo) (z : Value) (ht : P.underlying t = some (.slice e)) (hi : P.info? e = some i) (hz : i.zero = some z)
    (kl kc : IntKind) (n c : Nat) (hnc : n ≤ c) (hbytes : i.bytes * c ≤ 281474976710656) (h63 : c ≤ 9223372036854775807) (w : World) :
    (Instr.makeSlice t (.int kl (n : Int)) (.int kc (c : Int))).run P w = .ok (.slice (some ⟨w.heap.size, 0, none⟩) n c) (w.alloc (.cells (madeCells z.cells (c * i.size)) e)) := by
  have hb : (i.bytes : Int) * (c : Int) ≤ 281474976710656 := by
    have h : ((i.bytes * c : Nat) : Int) ≤ 281474976710656 := by omega
    rwa [Int.natCast_mul] at h
  have hr := run_make (P := P) w t e i z ht hi hz kl kc n c (by omega) (by omega) hb (by omega)
  simp only [Int.toNat_natCast] at hr
  exact hr

end Go.Proofs.Ytbhkjeicogjfbaa
