/-
  The contracts of the package lease, each once: what a call returns; the world stays as it is.
-/
import Derived.Test.YtmenifpibbjicaaRight
namespace Go.Proofs.Ytmenifpibbjicaa.base
open Go.RowKit

theorem finite_yes (t : Int) (w : World) (h0 : 0 ≤ t) (h1 : t < 1099511627776) :
    Calls Try.prog 41 #[.int .i64 t] w fun e w' => e = .returned (.bool true) ∧ w = w' := by
  go_enter Try.func41, Try.ntmps41
  go_wp2_with (go_at_call 15; refine (right_yes _ _ (by omega) (by omega)).mono ?_; rintro e w' ⟨rfl, rfl⟩)
  go_ret
  exact ⟨rfl, rfl⟩

theorem finite_no (t : Int) (w : World) (h : t < 0 ∨ 1099511627776 ≤ t) :
    Calls Try.prog 41 #[.int .i64 t] w fun e w' => e = .returned (.bool false) ∧ w = w' := by
  by_cases g : t = 1099511627776
  · subst g
    clear h
    go_enter Try.func41, Try.ntmps41
    go_wp2_with (go_at_call 15; refine (right_yes _ _ (by omega) (by omega)).mono ?_; rintro e w' ⟨rfl, rfl⟩)
    go_ret
    exact ⟨rfl, rfl⟩
  · have h' : t < 0 ∨ 1099511627776 < t := by omega
    clear h g
    go_enter Try.func41, Try.ntmps41
    go_wp2_with (go_at_call 15; refine (right_no _ _ h').mono ?_; rintro e w' ⟨rfl, rfl⟩)
    go_ret
    exact ⟨rfl, rfl⟩

theorem check_ok (dur drift : Int) (w : World) (h0 : 0 ≤ dur) (h1 : dur < 1099511627776) (h2 : 0 ≤ drift) (h3 : drift ≤ 262144) :
    Calls Try.prog 38 #[.int .i64 dur, .int .i64 drift] w fun e w' => e = .returned (.int .i64 0) ∧ w = w' := by
  go_enter Try.func38, Try.ntmps38
  go_wp2_with (go_at_call 41; refine (finite_yes _ _ (by omega) (by omega)).mono ?_; rintro e w' ⟨rfl, rfl⟩)
  go_ret
  exact ⟨rfl, rfl⟩

theorem check_tick (dur drift : Int) (w : World) (h : dur < 0 ∨ 1099511627776 ≤ dur) :
    Calls Try.prog 38 #[.int .i64 dur, .int .i64 drift] w fun e w' => e = .returned (.int .i64 1) ∧ w = w' := by
  go_enter Try.func38, Try.ntmps38
  go_wp2_with (go_at_call 41; refine (finite_no _ _ h).mono ?_; rintro e w' ⟨rfl, rfl⟩)
  go_ret
  exact ⟨rfl, rfl⟩

theorem check_drift (dur drift : Int) (w : World) (h0 : 0 ≤ dur) (h1 : dur < 1099511627776) (h : drift < 0 ∨ 262144 < drift) :
    Calls Try.prog 38 #[.int .i64 dur, .int .i64 drift] w fun e w' => e = .returned (.int .i64 21) ∧ w = w' := by
  by_cases g : drift < 0
  · clear h
    go_enter Try.func38, Try.ntmps38
    go_wp2_with (go_at_call 41; refine (finite_yes _ _ (by omega) (by omega)).mono ?_; rintro e w' ⟨rfl, rfl⟩)
    go_ret
    exact ⟨rfl, rfl⟩
  · have g' : 262144 < drift := by omega
    clear h
    go_enter Try.func38, Try.ntmps38
    go_wp2_with (go_at_call 41; refine (finite_yes _ _ (by omega) (by omega)).mono ?_; rintro e w' ⟨rfl, rfl⟩)
    go_ret
    exact ⟨rfl, rfl⟩

/-- How long a holder trusts. -/
def earlyF (dur drift : Int) : Int := if dur = 0 then 0 else (dur - 1) * (1048576 - drift) / (1048576 + drift)

theorem mul_bds (a b A B : Int) (h0 : 0 ≤ a) (h1 : a ≤ A) (h2 : 0 ≤ b) (h3 : b ≤ B) : 0 ≤ a * b ∧ a * b ≤ A * B :=
  ⟨Int.mul_nonneg h0 h2, Int.mul_le_mul h1 h3 h2 (by omega)⟩

theorem early_ok (dur drift : Int) (w : World) (h0 : 0 ≤ dur) (h1 : dur < 1099511627776) (h2 : 0 ≤ drift) (h3 : drift ≤ 262144) :
    Calls Try.prog 29 #[.int .i64 dur, .int .i64 drift] w fun e w' => e = .returned (.tuple #[.int .i64 (earlyF dur drift), .int .i64 0]) ∧ w = w' := by
  by_cases h : dur = 0
  · have e : earlyF dur drift = 0 := by unfold earlyF; rw [if_pos h]
    rw [e]
    clear e
    subst h
    go_enter Try.func29, Try.ntmps29
    go_wp2_with (go_at_call 38; refine (check_ok _ _ _ (by omega) (by omega) (by omega) (by omega)).mono ?_; rintro e w' ⟨rfl, rfl⟩)
    go_ret2
    exact ⟨rfl, rfl⟩
  · have e : earlyF dur drift = (dur - 1) * (1048576 - drift) / (1048576 + drift) := by unfold earlyF; rw [if_neg h]
    have hb : (dur == 0) = false := by simpa using h
    have hd : 1 ≤ dur := by omega
    obtain ⟨p0, p1⟩ := mul_bds (dur - 1) (1048576 - drift) 1099511627776 1048576 (by omega) (by omega) (by omega) (by omega)
    rw [e]
    clear e h
    go_enter Try.func29, Try.ntmps29
    go_wp2_with (go_at_call 38; refine (check_ok _ _ _ (by omega) (by omega) (by omega) (by omega)).mono ?_; rintro e w' ⟨rfl, rfl⟩)
    go_ret2
    exact ⟨rfl, rfl⟩

theorem early_tick (dur drift : Int) (w : World) (h : dur < 0 ∨ 1099511627776 ≤ dur) :
    Calls Try.prog 29 #[.int .i64 dur, .int .i64 drift] w fun e w' => e = .returned (.tuple #[.int .i64 0, .int .i64 1]) ∧ w = w' := by
  go_enter Try.func29, Try.ntmps29
  go_wp2_with (go_at_call 38; refine (check_tick _ _ _ h).mono ?_; rintro e w' ⟨rfl, rfl⟩)
  go_ret2
  exact ⟨rfl, rfl⟩

theorem early_drift (dur drift : Int) (w : World) (h0 : 0 ≤ dur) (h1 : dur < 1099511627776) (h : drift < 0 ∨ 262144 < drift) :
    Calls Try.prog 29 #[.int .i64 dur, .int .i64 drift] w fun e w' => e = .returned (.tuple #[.int .i64 0, .int .i64 21]) ∧ w = w' := by
  go_enter Try.func29, Try.ntmps29
  go_wp2_with (go_at_call 38; refine (check_drift _ _ _ h0 h1 h).mono ?_; rintro e w' ⟨rfl, rfl⟩)
  go_ret2
  exact ⟨rfl, rfl⟩

/-- How long a granter waits, but for the bound. -/
def upF (dur drift : Int) : Int := ((dur + 1) * (1048576 + drift) + (1048576 - drift) - 1) / (1048576 - drift) + 1
/-- How long a granter waits. -/
def guardF (dur drift : Int) : Int := if upF dur drift ≤ 1099511627776 then upF dur drift else 1099511627776

theorem guard_ok (dur drift : Int) (w : World) (h0 : 0 ≤ dur) (h1 : dur < 1099511627776) (h2 : 0 ≤ drift) (h3 : drift ≤ 262144) :
    Calls Try.prog 28 #[.int .i64 dur, .int .i64 drift] w fun e w' => e = .returned (.tuple #[.int .i64 (guardF dur drift), .int .i64 0]) ∧ w = w' := by
  obtain ⟨p0, p1⟩ := mul_bds (dur + 1) (1048576 + drift) 1099511627776 1310720 (by omega) (by omega) (by omega) (by omega)
  have q0 : 0 ≤ ((dur + 1) * (1048576 + drift) + (1048576 - drift) - 1) / (1048576 - drift) := Int.ediv_nonneg (by omega) (by omega)
  have q1 : ((dur + 1) * (1048576 + drift) + (1048576 - drift) - 1) / (1048576 - drift) ≤ (dur + 1) * (1048576 + drift) + (1048576 - drift) - 1 := Int.ediv_le_self _ (by omega)
  by_cases h : upF dur drift ≤ 1099511627776
  · have e : guardF dur drift = ((dur + 1) * (1048576 + drift) + (1048576 - drift) - 1) / (1048576 - drift) + 1 := by unfold guardF; rw [if_pos h]; rfl
    unfold upF at h
    rw [e]
    clear e
    go_enter Try.func28, Try.ntmps28
    go_wp2_with (go_at_call 38; refine (check_ok _ _ _ (by omega) (by omega) (by omega) (by omega)).mono ?_; rintro e w' ⟨rfl, rfl⟩)
    go_ret2
    exact ⟨rfl, rfl⟩
  · have e : guardF dur drift = 1099511627776 := by unfold guardF; rw [if_neg h]
    unfold upF at h
    rw [e]
    clear e
    go_enter Try.func28, Try.ntmps28
    go_wp2_with (go_at_call 38; refine (check_ok _ _ _ (by omega) (by omega) (by omega) (by omega)).mono ?_; rintro e w' ⟨rfl, rfl⟩)
    go_ret2
    exact ⟨rfl, rfl⟩

theorem guard_tick (dur drift : Int) (w : World) (h : dur < 0 ∨ 1099511627776 ≤ dur) :
    Calls Try.prog 28 #[.int .i64 dur, .int .i64 drift] w fun e w' => e = .returned (.tuple #[.int .i64 0, .int .i64 1]) ∧ w = w' := by
  go_enter Try.func28, Try.ntmps28
  go_wp2_with (go_at_call 38; refine (check_tick _ _ _ h).mono ?_; rintro e w' ⟨rfl, rfl⟩)
  go_ret2
  exact ⟨rfl, rfl⟩

theorem guard_drift (dur drift : Int) (w : World) (h0 : 0 ≤ dur) (h1 : dur < 1099511627776) (h : drift < 0 ∨ 262144 < drift) :
    Calls Try.prog 28 #[.int .i64 dur, .int .i64 drift] w fun e w' => e = .returned (.tuple #[.int .i64 0, .int .i64 21]) ∧ w = w' := by
  go_enter Try.func28, Try.ntmps28
  go_wp2_with (go_at_call 38; refine (check_drift _ _ _ h0 h1 h).mono ?_; rintro e w' ⟨rfl, rfl⟩)
  go_ret2
  exact ⟨rfl, rfl⟩

/-- Is a lease trusted? -/
def trustsB (sent now dur drift : Int) : Bool := decide (0 ≤ now - sent ∧ now - sent < earlyF dur drift)

theorem trusts_ok (sent now dur drift : Int) (w : World) (s0 : 0 ≤ sent) (s1 : sent ≤ 1099511627776) (n0 : 0 ≤ now) (n1 : now ≤ 1099511627776)
    (h0 : 0 ≤ dur) (h1 : dur < 1099511627776) (h2 : 0 ≤ drift) (h3 : drift ≤ 262144) :
    Calls Try.prog 35 #[.int .i64 sent, .int .i64 now, .int .i64 dur, .int .i64 drift] w fun e w' =>
      e = .returned (.tuple #[.bool (trustsB sent now dur drift), .int .i64 0]) ∧ w = w' := by
  by_cases g : 0 ≤ now - sent
  · by_cases k : now - sent < earlyF dur drift
    · have e : trustsB sent now dur drift = true := by unfold trustsB; simp only [decide_eq_true_eq]; exact ⟨g, k⟩
      rw [e]
      clear e
      go_enter Try.func35, Try.ntmps35
      go_wp2_with (first | (go_at_call 15; refine (right_yes _ _ (by omega) (by omega)).mono ?_; rintro e w' ⟨rfl, rfl⟩) | (go_at_call 29; refine (early_ok _ _ _ (by omega) (by omega) (by omega) (by omega)).mono ?_; rintro e w' ⟨rfl, rfl⟩))
      go_ret2
      exact ⟨rfl, rfl⟩
    · have e : trustsB sent now dur drift = false := by unfold trustsB; simp only [decide_eq_false_iff_not]; exact fun h => k h.2
      have kd : decide (now - sent < earlyF dur drift) = false := by simpa using k
      rw [e]
      clear e k
      go_enter Try.func35, Try.ntmps35
      go_wp2_with (first | (go_at_call 15; refine (right_yes _ _ (by omega) (by omega)).mono ?_; rintro e w' ⟨rfl, rfl⟩) | (go_at_call 29; refine (early_ok _ _ _ (by omega) (by omega) (by omega) (by omega)).mono ?_; rintro e w' ⟨rfl, rfl⟩))
      go_ret2
      exact ⟨rfl, rfl⟩
  · have e : trustsB sent now dur drift = false := by unfold trustsB; simp only [decide_eq_false_iff_not]; exact fun h => g h.1
    have g' : now - sent < 0 := by omega
    rw [e]
    clear e g
    go_enter Try.func35, Try.ntmps35
    go_wp2_with (first | (go_at_call 15; refine (right_yes _ _ (by omega) (by omega)).mono ?_; rintro e w' ⟨rfl, rfl⟩) | (go_at_call 29; refine (early_ok _ _ _ (by omega) (by omega) (by omega) (by omega)).mono ?_; rintro e w' ⟨rfl, rfl⟩))
    go_ret2
    exact ⟨rfl, rfl⟩

theorem trusts_tick (sent now dur drift : Int) (w : World) (h : sent < 0 ∨ 1099511627776 < sent ∨ now < 0 ∨ 1099511627776 < now) :
    Calls Try.prog 35 #[.int .i64 sent, .int .i64 now, .int .i64 dur, .int .i64 drift] w fun e w' =>
      e = .returned (.tuple #[.bool false, .int .i64 1]) ∧ w = w' := by
  by_cases ht : 0 ≤ sent ∧ sent ≤ 1099511627776
  · obtain ⟨h0, h1⟩ := ht
    have hd : now < 0 ∨ 1099511627776 < now := by omega
    clear h
    go_enter Try.func35, Try.ntmps35
    go_wp2_with fail
    refine (right_yes _ _ (by omega) (by omega)).mono ?_; rintro e w' ⟨rfl, rfl⟩
    go_wp2_with fail
    refine (right_no _ _ (by omega)).mono ?_; rintro e w' ⟨rfl, rfl⟩
    go_wp2_with fail
    go_ret2
    exact ⟨rfl, rfl⟩
  · go_enter Try.func35, Try.ntmps35
    go_wp2_with fail
    refine (right_no _ _ (by omega)).mono ?_; rintro e w' ⟨rfl, rfl⟩
    go_wp2_with fail
    go_ret2
    exact ⟨rfl, rfl⟩

theorem trusts_dur (sent now dur drift : Int) (w : World) (s0 : 0 ≤ sent) (s1 : sent ≤ 1099511627776) (n0 : 0 ≤ now) (n1 : now ≤ 1099511627776)
    (h : dur < 0 ∨ 1099511627776 ≤ dur) :
    Calls Try.prog 35 #[.int .i64 sent, .int .i64 now, .int .i64 dur, .int .i64 drift] w fun e w' =>
      e = .returned (.tuple #[.bool false, .int .i64 1]) ∧ w = w' := by
  go_enter Try.func35, Try.ntmps35
  go_wp2_with (first | (go_at_call 15; refine (right_yes _ _ (by omega) (by omega)).mono ?_; rintro e w' ⟨rfl, rfl⟩) | (go_at_call 29; refine (early_tick _ _ _ h).mono ?_; rintro e w' ⟨rfl, rfl⟩))
  go_ret2
  exact ⟨rfl, rfl⟩

theorem trusts_drift (sent now dur drift : Int) (w : World) (s0 : 0 ≤ sent) (s1 : sent ≤ 1099511627776) (n0 : 0 ≤ now) (n1 : now ≤ 1099511627776)
    (h0 : 0 ≤ dur) (h1 : dur < 1099511627776) (h : drift < 0 ∨ 262144 < drift) :
    Calls Try.prog 35 #[.int .i64 sent, .int .i64 now, .int .i64 dur, .int .i64 drift] w fun e w' =>
      e = .returned (.tuple #[.bool false, .int .i64 21]) ∧ w = w' := by
  go_enter Try.func35, Try.ntmps35
  go_wp2_with (first | (go_at_call 15; refine (right_yes _ _ (by omega) (by omega)).mono ?_; rintro e w' ⟨rfl, rfl⟩) | (go_at_call 29; refine (early_drift _ _ _ h0 h1 h).mono ?_; rintro e w' ⟨rfl, rfl⟩))
  go_ret2
  exact ⟨rfl, rfl⟩

/-- Is a lease over? -/
def lapsedB (got now dur : Int) : Bool := decide (dur ≤ now - got)

theorem lapsed_ok (got now dur : Int) (w : World) (s0 : 0 ≤ got) (s1 : got ≤ 1099511627776) (n0 : 0 ≤ now) (n1 : now ≤ 1099511627776)
    (h0 : 0 ≤ dur) (h1 : dur < 1099511627776) :
    Calls Try.prog 36 #[.int .i64 got, .int .i64 now, .int .i64 dur] w fun e w' =>
      e = .returned (.tuple #[.bool (lapsedB got now dur), .int .i64 0]) ∧ w = w' := by
  by_cases k : dur ≤ now - got
  · have e : lapsedB got now dur = true := by unfold lapsedB; simpa using k
    rw [e]
    clear e
    go_enter Try.func36, Try.ntmps36
    go_wp2_with (first | (go_at_call 15; refine (right_yes _ _ (by omega) (by omega)).mono ?_; rintro e w' ⟨rfl, rfl⟩) | (go_at_call 41; refine (finite_yes _ _ (by omega) (by omega)).mono ?_; rintro e w' ⟨rfl, rfl⟩))
    go_ret2
    exact ⟨rfl, rfl⟩
  · have e : lapsedB got now dur = false := by unfold lapsedB; simpa using k
    have kd : decide (dur ≤ now - got) = false := by simpa using k
    rw [e]
    clear e k
    go_enter Try.func36, Try.ntmps36
    go_wp2_with (first | (go_at_call 15; refine (right_yes _ _ (by omega) (by omega)).mono ?_; rintro e w' ⟨rfl, rfl⟩) | (go_at_call 41; refine (finite_yes _ _ (by omega) (by omega)).mono ?_; rintro e w' ⟨rfl, rfl⟩))
    go_ret2
    exact ⟨rfl, rfl⟩

theorem lapsed_bad (got now dur : Int) (w : World) (h : got < 0 ∨ 1099511627776 < got ∨ now < 0 ∨ 1099511627776 < now ∨ dur < 0 ∨ 1099511627776 ≤ dur) :
    Calls Try.prog 36 #[.int .i64 got, .int .i64 now, .int .i64 dur] w fun e w' =>
      e = .returned (.tuple #[.bool false, .int .i64 1]) ∧ w = w' := by
  by_cases hg : 0 ≤ got ∧ got ≤ 1099511627776
  · obtain ⟨g0, g1⟩ := hg
    by_cases hn : 0 ≤ now ∧ now ≤ 1099511627776
    · obtain ⟨n0, n1⟩ := hn
      have hd : dur < 0 ∨ 1099511627776 ≤ dur := by omega
      clear h
      go_enter Try.func36, Try.ntmps36
      go_wp2_with (first | (go_at_call 15; refine (right_yes _ _ (by omega) (by omega)).mono ?_; rintro e w' ⟨rfl, rfl⟩) | (go_at_call 41; refine (finite_no _ _ hd).mono ?_; rintro e w' ⟨rfl, rfl⟩))
      go_ret2
      exact ⟨rfl, rfl⟩
    · have hd : now < 0 ∨ 1099511627776 < now := by omega
      clear h hn
      go_enter Try.func36, Try.ntmps36
      go_wp2_with fail
      refine (right_yes _ _ (by omega) (by omega)).mono ?_; rintro e w' ⟨rfl, rfl⟩
      go_wp2_with fail
      refine (right_no _ _ hd).mono ?_; rintro e w' ⟨rfl, rfl⟩
      go_wp2_with fail
      go_ret2
      exact ⟨rfl, rfl⟩
  · have hd : got < 0 ∨ 1099511627776 < got := by omega
    clear h hg
    go_enter Try.func36, Try.ntmps36
    go_wp2_with fail
    refine (right_no _ _ hd).mono ?_; rintro e w' ⟨rfl, rfl⟩
    go_wp2_with fail
    go_ret2
    exact ⟨rfl, rfl⟩

theorem lwakes (w : World) : Calls Try.prog 27 #[] w fun e w' => e = .returned (.bool true) ∧ w = w' := by
  go_enter Try.func27, Try.ntmps27
  go_wp2_with fail
  refine (early_ok _ _ _ (by omega) (by omega) (by omega) (by omega)).mono ?_; rintro e w' ⟨rfl, rfl⟩
  have e : earlyF 64 16384 = 61 := by decide
  rw [e]
  clear e
  go_wp2_with fail
  go_ret
  exact ⟨rfl, rfl⟩

end Go.Proofs.Ytmenifpibbjicaa.base
