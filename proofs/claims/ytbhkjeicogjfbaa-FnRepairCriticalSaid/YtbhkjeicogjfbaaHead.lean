/- The three closed facts that read the program's head, by its first words alone. Conditions: none. -/
import Derived.Test.YtbhkjeicogjfbaaRows
import Derived.KernelRfl
import Derived.JoinedOf
namespace Go.Proofs.Ytbhkjeicogjfbaa
def signs1 : List Nat := [104, 97, 114, 110, 101, 115, 115]
def signs2 : List Nat := [100, 48, 100, 98, 52, 97, 98, 53, 49, 97, 48, 56, 98, 50, 55, 101, 56, 53, 53, 50, 49, 57, 55, 97, 52, 49, 53, 51, 101, 52, 51, 99, 56, 97, 55, 55, 54, 54, 48, 56, 98, 54, 55, 52, 102, 54, 97, 52, 102, 53, 48, 56, 102, 97, 48, 101, 56, 99, 100, 57, 55, 53, 101, 56]
def signs3 : List Nat := [99, 117, 116]
def signs4 : List Nat := [97, 116, 32, 108, 111, 111, 112, 46, 101, 120, 97, 109, 112, 108, 101, 47, 108, 105, 110, 107, 115, 116, 97, 116, 101, 114, 111, 117, 116, 105, 110, 103, 47, 108, 97, 119, 115, 46, 70, 110, 78, 111, 76, 111, 111, 112, 32, 108, 111, 111, 112, 46, 101, 120, 97, 109, 112, 108, 101, 47, 108, 105, 110, 107, 115, 116, 97, 116, 101, 114, 111, 117, 116, 105, 110, 103, 47, 108, 97, 119, 115, 46, 70, 110, 65, 114, 114, 105, 118, 101, 115, 77, 111, 114, 101, 32, 108, 111, 111, 112, 46, 101, 120, 97, 109, 112, 108, 101, 47, 108, 105, 110, 107, 115, 116, 97, 116, 101, 114, 111, 117, 116, 105, 110, 103, 47, 108, 97, 119, 115, 46, 70, 110, 65, 114, 114, 105, 118, 101, 115, 65, 108, 108, 32, 108, 111, 111, 112, 46, 101, 120, 97, 109, 112, 108, 101, 47, 108, 105, 110, 107, 115, 116, 97, 116, 101, 114, 111, 117, 116, 105, 110, 103, 47, 108, 97, 119, 115, 46, 70, 110, 69, 120, 97, 99, 116, 77, 105, 120, 101, 100, 72, 111, 112, 115, 32, 108, 111, 111, 112, 46, 101, 120, 97, 109, 112, 108, 101, 47, 108, 105, 110, 107, 115, 116, 97, 116, 101, 114, 111, 117, 116, 105, 110, 103, 47, 108, 97, 119, 115, 46, 70, 110, 77, 105, 120, 101, 100, 78, 101, 119, 32, 108, 111, 111, 112, 46, 101, 120, 97, 109, 112, 108, 101, 47, 108, 105, 110, 107, 115, 116, 97, 116, 101, 114, 111, 117, 116, 105, 110, 103, 47, 108, 97, 119, 115, 46, 70, 110, 77, 105, 120, 101, 100, 85, 110, 117, 115, 101, 100, 32, 108, 111, 111, 112, 46, 101, 120, 97, 109, 112, 108, 101, 47, 108, 105, 110, 107, 115, 116, 97, 116, 101, 114, 111, 117, 116, 105, 110, 103, 47, 108, 97, 119, 115, 46, 70, 110, 77, 105, 120, 101, 100, 79, 108, 100, 32, 108, 111, 111, 112, 46, 101, 120, 97, 109, 112, 108, 101, 47, 108, 105, 110, 107, 115, 116, 97, 116, 101, 114, 111, 117, 116, 105, 110, 103, 47, 108, 97, 119, 115, 46, 70, 110, 69, 120, 97, 99, 116, 77, 105, 120, 101, 100, 65, 114, 114, 105, 118, 101, 115, 32, 108, 111, 111, 112, 46, 101, 120, 97, 109, 112, 108, 101, 47, 108, 105, 110, 107, 115, 116, 97, 116, 101, 114, 111, 117, 116, 105, 110, 103, 47, 108, 97, 119, 115, 46, 70, 110, 69, 120, 97, 99, 116, 77, 105, 120, 101, 100, 76, 111, 111, 112, 32, 108, 111, 111, 112, 46, 101, 120, 97, 109, 112, 108, 101, 47, 108, 105, 110, 107, 115, 116, 97, 116, 101, 114, 111, 117, 116, 105, 110, 103, 47, 108, 97, 119, 115, 46, 70, 110, 76, 111, 111, 112, 78, 111, 100, 101, 115, 32, 108, 111, 111, 112, 46, 101, 120, 97, 109, 112, 108, 101, 47, 108, 105, 110, 107, 115, 116, 97, 116, 101, 114, 111, 117, 116, 105, 110, 103, 47, 108, 97, 119, 115, 46, 70, 110, 65, 114, 114, 105, 118, 101, 115, 83, 111, 109, 101, 32, 108, 111, 111, 112, 46, 101, 120, 97, 109, 112, 108, 101, 47, 108, 105, 110, 107, 115, 116, 97, 116, 101, 114, 111, 117, 116, 105, 110, 103, 47, 108, 97, 119, 115, 46, 70, 110, 65, 114, 114, 105, 118, 101, 115, 78, 111, 76, 111, 111, 112, 32, 108, 111, 111, 112, 46, 101, 120, 97, 109, 112, 108, 101, 47, 108, 105, 110, 107, 115, 116, 97, 116, 101, 114, 111, 117, 116, 105, 110, 103, 47, 108, 97, 119, 115, 46, 70, 110, 82, 101, 112, 97, 105, 114, 67, 114, 105, 116, 105, 99, 97, 108]
theorem initIs : Try.prog.initOrder = String.ofList ((signs1 ++ 32 :: (signs2 ++ 32 :: (signs3 ++ 32 :: signs4))).map Char.ofNat) := by kernel_rfl
theorem word_cut : ∀ (w : List Nat) (r : List Char), (∀ c ∈ w, Char.ofNat c ≠ Char.ofNat 32) → wordsSigns (w.map Char.ofNat ++ Char.ofNat 32 :: r) = w.map Char.ofNat :: wordsSigns r
  | [], r, _ => by simp [wordsSigns]
  | c :: w, r, h => by
    have h1 := word_cut w r fun d hd => h d (by simp [hd])
    have h2 : Char.ofNat c ≠ Char.ofNat 32 := h c (by simp)
    rw [List.map_cons, List.cons_append, wordsSigns, h1]
    exact h2
theorem initW : wordsSigns Try.prog.initOrder.toList = signs1.map Char.ofNat :: signs2.map Char.ofNat :: signs3.map Char.ofNat :: wordsSigns (signs4.map Char.ofNat) := by
  rw [initIs, String.toList_ofList]
  simp only [List.map_append, List.map_cons]
  rw [word_cut _ _ (by decide), word_cut _ _ (by decide), word_cut _ _ (by decide)]
theorem behind_main (R : List (List Char)) : behindMainWord (signs1.map Char.ofNat :: signs2.map Char.ofNat :: signs3.map Char.ofNat :: R) = signs3.map Char.ofNat :: R := by
  have h1 : (List.map Char.ofNat signs1 == "harness".toList) = true := by kernel_rfl
  have h2 : isSumSigns (List.map Char.ofNat signs2) = true := by kernel_rfl
  unfold behindMainWord
  simp only [h1, h2, Bool.true_or, Bool.and_self, if_true]
theorem head_is : behindMainWord (wordsSigns Try.prog.initOrder.toList) = signs3.map Char.ofNat :: wordsSigns (signs4.map Char.ofNat) := by
  rw [initW]
  exact behind_main _
theorem make_of (P : Program) (R : List (List Char)) (c : List Char) (h : behindMainWord (wordsSigns P.initOrder.toList) = c :: R) (h1 : (c == "gc".toList) = false) (h2 : (c == "spec".toList) = false) (h3 : (c == "cut".toList) = true) : P.make = some .cut := by
  unfold Program.make
  rw [h]
  simp only [h1, h2, h3, Bool.or_false, Bool.true_or, Bool.false_eq_true, if_false, if_true]
theorem enter_of (P : Program) (R : List (List Char)) (c : List Char) (h : behindMainWord (wordsSigns P.initOrder.toList) = c :: R) (h1 : stripLifts liftWords (c :: R) = ([], c :: R)) (h3 : (c == "cut".toList) = true) (l1 : P.laysLater = false) (l2 : P.bearsReflect = false) (l3 : P.doorFits [] = true) : P.mayEnter = true := by
  unfold Program.mayEnter
  rw [h]
  simp only [h1, l1, l2, l3, List.head?_cons, List.contains_nil, Bool.not_false, Bool.or_true, Bool.and_true]
  have h4 : (some c == some "cut".toList) = true := by rw [beq_iff_eq] at h3 ⊢; rw [h3]
  rw [h4]
  simp
theorem lifts_of (P : Program) (R : List (List Char)) (c : List Char) (h : behindMainWord (wordsSigns P.initOrder.toList) = c :: R) (h1 : stripLifts liftWords (c :: R) = ([], c :: R)) (h3 : (c == "carried".toList) = false) : P.liftsFinal = false := by
  unfold Program.liftsFinal Program.headLifts
  rw [h]
  have h4 : (some c == some "carried".toList) = false := by
    rw [Bool.eq_false_iff] at h3 ⊢
    intro h5
    exact h3 (by simpa using h5)
  simp only [h1, h4, List.head?_cons, Bool.false_and, Bool.false_or]
  split <;> rfl
theorem strip_cut (R : List (List Char)) : stripLifts liftWords (List.map Char.ofNat signs3 :: R) = ([], List.map Char.ofNat signs3 :: R) := by kernel_rfl
theorem laysLaterNo : Try.prog.laysLater = false := by kernel_rfl
theorem bearsReflectNo : Try.prog.bearsReflect = false := by kernel_rfl
theorem doorFitsYes : Try.prog.doorFits [] = true := by kernel_rfl
theorem isCut : (List.map Char.ofNat signs3 == "cut".toList) = true := by kernel_rfl
theorem makeOk : Try.prog.make = some .cut := make_of _ _ _ head_is (by kernel_rfl) (by kernel_rfl) isCut
theorem liftsOk : Try.prog.liftsFinal = false := lifts_of _ _ _ head_is (strip_cut _) (by kernel_rfl)
theorem enterOk : Try.prog.mayEnter = true := enter_of _ _ _ head_is (strip_cut _) isCut laysLaterNo bearsReflectNo doorFitsYes
end Go.Proofs.Ytbhkjeicogjfbaa
