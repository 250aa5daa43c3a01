/- The laws FnOrderFar, FnOrderNodes and FnOrderNone, walked: they return true for every code. Conditions: none. -/
import Derived.Test.YtbhkjeicogjfbaaDrawQ
import Derived.Test.YtbhkjeicogjfbaaExG
import Derived.Test.YtbhkjeicogjfbaaLawH
import Derived.Test.YtbhkjeicogjfbaaOrdS
namespace Go.Proofs.Ytbhkjeicogjfbaa
open Go.RowKit
theorem ins_fin {d : Int → Int} {L : List Int} {i : Nat} (ha : L.Pairwise (· < ·)) : ∀ (j : Nat) (M : List Int), Ins d L i j M → ∃ M', Srt d L (i + 1) M'
  | 0, M, h => ⟨M, ins_stop ha h fun _ _ h0 => by omega⟩
  | j + 1, M, h => by
    obtain ⟨z, x, hz, hx, hs⟩ := ins_at h (by omega)
    by_cases hd : d z < d x
    · exact ins_fin ha j _ (hs hd)
    · exact ⟨M, ins_stop ha h fun z' x' _ h1 h2 => by rw [hz] at h1; rw [hx] at h2; cases h1; cases h2; exact hd⟩
theorem srt_ex {d : Int → Int} {L : List Int} (ha : L.Pairwise (· < ·)) : ∀ i, 1 ≤ i → i ≤ L.length → ∃ M, Srt d L i M
  | 0, h, _ => by omega
  | 1, _, _ => ⟨L, srt_start d L⟩
  | i + 2, _, h => by
    obtain ⟨M, hM⟩ := srt_ex ha (i + 1) (by omega) (by omega)
    exact ins_fin ha _ M (ins_start hM (by omega))
theorem sort_ex (d : Int → Int) {L : List Int} (ha : L.Pairwise (· < ·)) : ∃ M : List Int, M.Perm L ∧ M.Pairwise (Bd2 d) := by
  by_cases h : 1 ≤ L.length
  · obtain ⟨M, hM⟩ := srt_ex (d := d) ha _ h (Nat.le_refl _)
    exact ⟨M, srt_end hM (Nat.le_refl _)⟩
  · exact ⟨L, srt_end (srt_start d L) (by omega)⟩
theorem ordX_ord {g : Gr} {k t : Int} (h : Ok g t k) : OrdL g (lkOf g k) t (ordX g k t) ∧ (ordX g k t).Perm (selTo (UsT g (lkOf g k) t) g.n.toNat) := by
  obtain ⟨M, h1, h2⟩ := sort_ex (D g t) (selTo_asc (UsT g (lkOf g k) t) g.n.toNat)
  have hM := ord_sorted h ⟨h1, h2⟩
  rw [ordX_is h hM]
  exact ⟨hM, h1⟩
theorem ordX_len (g : Gr) (k t : Int) : (ordX g k t).length ≤ 8 := by
  by_cases h : Ok g t k
  · rw [(ordX_ord h).2.length_eq]
    exact selTo_le _ _ (by have := h.1.n; omega)
  · rw [ordX_no h]; simp
end Go.Proofs.Ytbhkjeicogjfbaa
