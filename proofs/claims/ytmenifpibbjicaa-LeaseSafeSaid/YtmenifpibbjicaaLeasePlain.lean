/-
  The plain law of leases: how long is trusted and waited, as the lease and the drift grow; no program in sight.
-/
import Derived.Test.YtmenifpibbjicaaLease
namespace Go.Proofs.Ytmenifpibbjicaa.base

theorem up_down (X den : Int) (hd : 1 ≤ den) :
    X / den * den ≤ X ∧ X < X / den * den + den ∧ X ≤ (X + den - 1) / den * den ∧ (X + den - 1) / den * den < X + den := by
  have e1 := Int.mul_ediv_add_emod X den
  have r1 := Int.emod_nonneg X (show den ≠ 0 by omega)
  have r2 := Int.emod_lt_of_pos X (show 0 < den by omega)
  have e2 := Int.mul_ediv_add_emod (X + den - 1) den
  have r3 := Int.emod_nonneg (X + den - 1) (show den ≠ 0 by omega)
  have r4 := Int.emod_lt_of_pos (X + den - 1) (show 0 < den by omega)
  rw [Int.mul_comm] at e1 e2
  exact ⟨by omega, by omega, by omega, by omega⟩

theorem le_mul (p q den : Int) (hd : 1 ≤ den) (h : p * den < q * den + den) : p ≤ q := by
  have h' : p * den < (q + 1) * den := by rw [Int.add_mul, Int.one_mul]; exact h
  have := Int.lt_of_mul_lt_mul_right h' (by omega : 0 ≤ den)
  omega

/-- Trusted: bounds, and what it is times the denominator. -/
theorem early_facts (dur drift : Int) (h0 : 0 ≤ dur) (h2 : 0 ≤ drift) (h3 : drift ≤ 262144) :
    0 ≤ earlyF dur drift ∧ earlyF dur drift ≤ dur ∧ (1 ≤ dur → earlyF dur drift * (1048576 + drift) ≤ (dur - 1) * (1048576 - drift)) := by
  by_cases h : dur = 0
  · have e : earlyF dur drift = 0 := by unfold earlyF; rw [if_pos h]
    rw [e]; exact ⟨by omega, by omega, fun _ => by omega⟩
  · have e : earlyF dur drift = (dur - 1) * (1048576 - drift) / (1048576 + drift) := by unfold earlyF; rw [if_neg h]
    have p0 : 0 ≤ (dur - 1) * (1048576 - drift) := Int.mul_nonneg (by omega) (by omega)
    have p1 : 0 ≤ (dur - 1) * drift := Int.mul_nonneg (by omega) (by omega)
    obtain ⟨u0, u1, _, _⟩ := up_down ((dur - 1) * (1048576 - drift)) (1048576 + drift) (by omega)
    have n0 := Int.ediv_nonneg p0 (show 0 ≤ 1048576 + drift by omega)
    rw [e]
    refine ⟨n0, ?_, fun _ => u0⟩
    have s1 : (dur - 1) * (1048576 - drift) = (dur - 1) * 1048576 - (dur - 1) * drift := Int.mul_sub _ _ _
    have s2 : (dur - 1) * (1048576 + drift) = (dur - 1) * 1048576 + (dur - 1) * drift := Int.mul_add _ _ _
    have := le_mul _ (dur - 1) (1048576 + drift) (by omega) (show (dur - 1) * (1048576 - drift) / (1048576 + drift) * (1048576 + drift) < (dur - 1) * (1048576 + drift) + (1048576 + drift) by omega)
    omega

theorem early_longer (dur more drift : Int) (h0 : 0 ≤ dur) (hm : dur ≤ more) (h2 : 0 ≤ drift) (h3 : drift ≤ 262144) : earlyF dur drift ≤ earlyF more drift := by
  have f := (early_facts more drift (by omega) h2 h3).1
  by_cases h : dur = 0
  · have e : earlyF dur drift = 0 := by unfold earlyF; rw [if_pos h]
    rw [e]; exact f
  · unfold earlyF
    rw [if_neg h, if_neg (by omega)]
    exact Int.ediv_le_ediv (by omega) (Int.mul_le_mul_of_nonneg_right (by omega) (by omega))

theorem early_worse (dur drift worse : Int) (h0 : 0 ≤ dur) (h2 : 0 ≤ drift) (hw : drift ≤ worse) (h3 : worse ≤ 262144) : earlyF dur worse ≤ earlyF dur drift := by
  by_cases h : dur = 0
  · unfold earlyF; rw [if_pos h, if_pos h]; omega
  · have f := early_facts dur worse h0 (by omega) h3
    have f2 := f.2.2 (by omega)
    have f0 := f.1
    have e : earlyF dur drift = (dur - 1) * (1048576 - drift) / (1048576 + drift) := by unfold earlyF; rw [if_neg h]
    rw [e]
    rw [Int.le_ediv_iff_mul_le (by omega)]
    have a1 : earlyF dur worse * (1048576 + drift) ≤ earlyF dur worse * (1048576 + worse) := Int.mul_le_mul_of_nonneg_left (by omega) f0
    have a2 : (dur - 1) * (1048576 - worse) ≤ (dur - 1) * (1048576 - drift) := Int.mul_le_mul_of_nonneg_left (by omega) (by omega)
    omega

/-- What upF is times the denominator. -/
theorem up_facts (dur drift : Int) (h0 : 0 ≤ dur) (h2 : 0 ≤ drift) (h3 : drift ≤ 262144) :
    (dur + 1) * (1048576 + drift) ≤ (upF dur drift - 1) * (1048576 - drift) ∧ (upF dur drift - 1) * (1048576 - drift) < (dur + 1) * (1048576 + drift) + (1048576 - drift) ∧ dur + 2 ≤ upF dur drift := by
  have e : upF dur drift - 1 = ((dur + 1) * (1048576 + drift) + (1048576 - drift) - 1) / (1048576 - drift) := by unfold upF; omega
  obtain ⟨_, _, u2, u3⟩ := up_down ((dur + 1) * (1048576 + drift)) (1048576 - drift) (by omega)
  rw [← e] at u2 u3
  refine ⟨u2, u3, ?_⟩
  have p1 : 0 ≤ (dur + 1) * drift := Int.mul_nonneg (by omega) (by omega)
  have s1 : (dur + 1) * (1048576 - drift) = (dur + 1) * 1048576 - (dur + 1) * drift := Int.mul_sub _ _ _
  have s2 : (dur + 1) * (1048576 + drift) = (dur + 1) * 1048576 + (dur + 1) * drift := Int.mul_add _ _ _
  have := le_mul (dur + 1) (upF dur drift - 1) (1048576 - drift) (by omega) (by omega)
  omega

theorem guard_of (a b : Int) (h : a ≤ b) : (if a ≤ 1099511627776 then a else 1099511627776) ≤ (if b ≤ 1099511627776 then b else 1099511627776) := by
  split <;> split <;> omega

theorem guard_longer (dur more drift : Int) (h0 : 0 ≤ dur) (hm : dur ≤ more) (h2 : 0 ≤ drift) (h3 : drift ≤ 262144) : guardF dur drift ≤ guardF more drift := by
  refine guard_of _ _ ?_
  have a1 : (dur + 1) * (1048576 + drift) ≤ (more + 1) * (1048576 + drift) := Int.mul_le_mul_of_nonneg_right (by omega) (by omega)
  obtain ⟨x0, x1, x2⟩ := up_facts dur drift h0 h2 h3
  obtain ⟨y0, y1, y2⟩ := up_facts more drift (by omega) h2 h3
  have := le_mul (upF dur drift - 1) (upF more drift - 1) (1048576 - drift) (by omega) (by omega)
  omega

theorem guard_worse (dur drift worse : Int) (h0 : 0 ≤ dur) (h2 : 0 ≤ drift) (hw : drift ≤ worse) (h3 : worse ≤ 262144) : guardF dur drift ≤ guardF dur worse := by
  refine guard_of _ _ ?_
  have a1 : (dur + 1) * (1048576 + drift) ≤ (dur + 1) * (1048576 + worse) := Int.mul_le_mul_of_nonneg_left (by omega) (by omega)
  obtain ⟨x0, x1, x2⟩ := up_facts dur drift h0 h2 (by omega)
  obtain ⟨y0, y1, y2⟩ := up_facts dur worse h0 (by omega) h3
  have a2 : (upF dur worse - 1) * (1048576 - worse) ≤ (upF dur worse - 1) * (1048576 - drift) := Int.mul_le_mul_of_nonneg_left (by omega) (by omega)
  have := le_mul (upF dur drift - 1) (upF dur worse - 1) (1048576 - drift) (by omega) (by omega)
  omega

theorem guard_least (dur drift : Int) (h0 : 0 ≤ dur) (h1 : dur < 1099511627776) (h2 : 0 ≤ drift) (h3 : drift ≤ 262144) : dur ≤ guardF dur drift ∧ guardF dur drift ≤ 1099511627776 := by
  obtain ⟨x0, x1, x2⟩ := up_facts dur drift h0 h2 h3
  unfold guardF
  split <;> omega

/-- THE HOLDER: as long as it trusts, the granter's clock has not come to the lease's end. -/
theorem safe (dur drift hd gd : Int) (h0 : 0 ≤ dur) (h2 : 0 ≤ drift) (h3 : drift ≤ 262144) (ht : hd < earlyF dur drift) (h4 : 0 ≤ hd)
    (hk : (gd - 1) * (1048576 - drift) < (hd + 1) * (1048576 + drift)) : gd < dur := by
  obtain ⟨f0, f1, f2⟩ := early_facts dur drift h0 h2 h3
  have f3 := f2 (by omega)
  have a1 : (hd + 1) * (1048576 + drift) ≤ earlyF dur drift * (1048576 + drift) := Int.mul_le_mul_of_nonneg_right (by omega) (by omega)
  have a2 : (gd - 1) * (1048576 - drift) < (dur - 1) * (1048576 - drift) := by omega
  have := Int.lt_of_mul_lt_mul_right a2 (by omega : 0 ≤ 1048576 - drift)
  omega

/-- THE GRANTER: when he has waited for a guard, she who trusts for dur by her own clock trusts no more. -/
theorem guards (dur drift hd gd : Int) (h0 : 0 ≤ dur) (h2 : 0 ≤ drift) (h3 : drift ≤ 262144) (hg : guardF dur drift ≤ gd) (hb : gd < 1099511627776) (ht : hd < dur)
    (hk : (gd - 1) * (1048576 - drift) < (hd + 1) * (1048576 + drift)) : False := by
  obtain ⟨x0, x1, x2⟩ := up_facts dur drift h0 h2 h3
  have g : upF dur drift ≤ gd := by
    unfold guardF at hg
    split at hg <;> omega
  have a1 : (upF dur drift - 1) * (1048576 - drift) ≤ (gd - 1) * (1048576 - drift) := Int.mul_le_mul_of_nonneg_right (by omega) (by omega)
  have a2 : (hd + 1) * (1048576 + drift) ≤ (dur + 1) * (1048576 + drift) := Int.mul_le_mul_of_nonneg_right (by omega) (by omega)
  omega

end Go.Proofs.Ytmenifpibbjicaa.base
