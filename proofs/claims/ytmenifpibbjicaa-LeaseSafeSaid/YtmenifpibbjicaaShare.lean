/-
  The plain law of a share: how (t num + more) / den lies, rounded down and up; no program in sight.
-/
import Derived.Test.YtmenifpibbjicaaTick
namespace Go.Proofs.Ytmenifpibbjicaa.base

theorem down_up (X den : Int) (hX : 0 ≤ X) (hd : 1 ≤ den) :
    0 ≤ X / den ∧ X / den ≤ (X + (den - 1)) / den ∧ (X + (den - 1)) / den ≤ X / den + 1 ∧ X / den * den ≤ X ∧ X < X / den * den + den ∧ X ≤ (X + (den - 1)) / den * den ∧ (X + (den - 1)) / den * den < X + den := by
  have p0 : 0 ≤ X / den := Int.ediv_nonneg hX (by omega)
  have p1 : X / den ≤ (X + (den - 1)) / den := Int.ediv_le_ediv (by omega) (by omega)
  have e1 := Int.mul_ediv_add_emod X den
  have r1 := Int.emod_nonneg X (show den ≠ 0 by omega)
  have r2 := Int.emod_lt_of_pos X (show 0 < den by omega)
  have e2 := Int.mul_ediv_add_emod (X + (den - 1)) den
  have r3 := Int.emod_nonneg (X + (den - 1)) (show den ≠ 0 by omega)
  have r4 := Int.emod_lt_of_pos (X + (den - 1)) (show 0 < den by omega)
  rw [Int.mul_comm] at e1 e2
  have p2 : (X + (den - 1)) / den ≤ X / den + 1 := by
    have h : (X + (den - 1)) / den ≤ (X + den) / den := Int.ediv_le_ediv (by omega) (by omega)
    have h2 : (X + den) / den = X / den + 1 := by
      have := Int.add_mul_ediv_right X 1 (show den ≠ 0 by omega)
      rwa [Int.one_mul] at this
    omega
  exact ⟨p0, p1, p2, by omega, by omega, by omega, by omega⟩

theorem shareF_bd (t num den more : Int) (hm : May t num den) (m0 : 0 ≤ more) : 0 ≤ shareF t num den more ∧ shareF t num den more ≤ 1099511627776 := by
  obtain ⟨h0, h1, h2, h3, h4, h5⟩ := hm
  obtain ⟨p0, p1⟩ := mul_bd t num h0 h1 h2 h3
  have := Int.ediv_nonneg (show 0 ≤ t * num + more by omega) (show 0 ≤ den by omega)
  unfold shareF
  split
  · omega
  · split <;> omega

theorem share_near (t num den : Int) (hm : May t num den) :
    shareF t num den 0 ≤ shareF t num den (den - 1) ∧ shareF t num den (den - 1) ≤ shareF t num den 0 + 1 := by
  obtain ⟨h0, h1, h2, h3, h4, h5⟩ := hm
  obtain ⟨p0, p1⟩ := mul_bd t num h0 h1 h2 h3
  obtain ⟨d0, d1, d2, d3, d4, d5, d6⟩ := down_up (t * num) den p0 h4
  unfold shareF
  rw [Int.add_zero]
  split
  · omega
  · split <;> split <;> omega

theorem share_whole (t num : Int) (hm : May t num num) : shareF t num num 0 = t ∧ shareF t num num (num - 1) = t := by
  obtain ⟨h0, h1, h2, h3, h4, h5⟩ := hm
  have e0 : (t * num + 0) / num = t := by rw [Int.add_zero]; exact Int.mul_ediv_cancel t (by omega)
  have e1 : (t * num + (num - 1)) / num = t := by
    rw [Int.add_comm, Int.add_mul_ediv_right _ _ (show num ≠ 0 by omega), Int.ediv_eq_zero_of_lt (by omega) (by omega)]; omega
  unfold shareF
  rw [e0, e1]
  split
  · omega
  · first | exact ⟨rfl, rfl⟩ | (rw [if_pos h1]; exact ⟨rfl, rfl⟩)

/-- Rounded down, it is no more; rounded up, no less. -/
theorem share_lies (t num den : Int) (hm : May t num den) (ht : t < 1099511627776) (ha : shareF t num den 0 < 1099511627776) :
    shareF t num den 0 * den ≤ t * num ∧ (shareF t num den (den - 1) < 1099511627776 → t * num ≤ shareF t num den (den - 1) * den) := by
  obtain ⟨h0, h1, h2, h3, h4, h5⟩ := hm
  obtain ⟨p0, p1⟩ := mul_bd t num h0 h1 h2 h3
  obtain ⟨d0, d1, d2, d3, d4, d5, d6⟩ := down_up (t * num) den p0 h4
  have ht' : ¬ t = 1099511627776 := by omega
  unfold shareF at ha ⊢
  rw [Int.add_zero] at ha ⊢
  rw [if_neg ht'] at ha ⊢
  rw [if_neg ht']
  constructor
  · split at ha
    · rename_i h; rw [if_pos h]; exact d3
    · omega
  · intro hb
    split at hb
    · rename_i h; rw [if_pos h]; exact d5
    · omega

end Go.Proofs.Ytmenifpibbjicaa.base
