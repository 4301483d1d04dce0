/-
  The contracts of the page's own answers for the package lease (hanseref13), each once: they are the same functions of Lean that lease's own contracts name.
-/
import Derived.Test.YtmenifpibbjicabLeasePlain
namespace Go.Proofs.Ytmenifpibbjicab.base
open Go.RowKit

theorem qright_yes (t : Int) (w : World) (h0 : 0 ≤ t) (h1 : t ≤ 1099511627776) :
    Calls Try.prog 18 #[.int .i64 t] w fun e w' => e = .returned (.bool true) ∧ w = w' := by
  go_enter Try.func18, Try.ntmps18
  go_wp2
  go_ret
  exact ⟨rfl, rfl⟩

theorem qright_no (t : Int) (w : World) (h : t < 0 ∨ 1099511627776 < t) :
    Calls Try.prog 18 #[.int .i64 t] w fun e w' => e = .returned (.bool false) ∧ w = w' := by
  rcases h with h | h
  · go_enter Try.func18, Try.ntmps18
    go_wp2
    go_ret
    exact ⟨rfl, rfl⟩
  · have h0 : 0 ≤ t := by omega
    have hd : decide (t ≤ 1099511627776) = false := by simp; omega
    go_enter Try.func18, Try.ntmps18
    go_wp2
    go_ret
    exact ⟨rfl, rfl⟩

theorem below_yes (t : Int) (w : World) (h0 : 0 ≤ t) (h1 : t < 1099511627776) :
    Calls Try.prog 14 #[.int .i64 t] w fun e w' => e = .returned (.bool true) ∧ w = w' := by
  go_enter Try.func14, Try.ntmps14
  go_wp2_with (go_at_call 18; refine (qright_yes _ _ (by omega) (by omega)).mono ?_; rintro e w' ⟨rfl, rfl⟩)
  go_ret
  exact ⟨rfl, rfl⟩

theorem below_no (t : Int) (w : World) (h : t < 0 ∨ 1099511627776 ≤ t) :
    Calls Try.prog 14 #[.int .i64 t] w fun e w' => e = .returned (.bool false) ∧ w = w' := by
  by_cases g : t = 1099511627776
  · subst g
    clear h
    go_enter Try.func14, Try.ntmps14
    go_wp2_with (go_at_call 18; refine (qright_yes _ _ (by omega) (by omega)).mono ?_; rintro e w' ⟨rfl, rfl⟩)
    go_ret
    exact ⟨rfl, rfl⟩
  · have h' : t < 0 ∨ 1099511627776 < t := by omega
    clear h g
    go_enter Try.func14, Try.ntmps14
    go_wp2_with (go_at_call 18; refine (qright_no _ _ h').mono ?_; rintro e w' ⟨rfl, rfl⟩)
    go_ret
    exact ⟨rfl, rfl⟩

theorem drift_yes (t : Int) (w : World) (h0 : 0 ≤ t) (h1 : t ≤ 262144) :
    Calls Try.prog 15 #[.int .i64 t] w fun e w' => e = .returned (.bool true) ∧ w = w' := by
  go_enter Try.func15, Try.ntmps15
  go_wp2
  go_ret
  exact ⟨rfl, rfl⟩

theorem drift_no (t : Int) (w : World) (h : t < 0 ∨ 262144 < t) :
    Calls Try.prog 15 #[.int .i64 t] w fun e w' => e = .returned (.bool false) ∧ w = w' := by
  rcases h with h | h
  · go_enter Try.func15, Try.ntmps15
    go_wp2
    go_ret
    exact ⟨rfl, rfl⟩
  · have h0 : 0 ≤ t := by omega
    have hd : decide (t ≤ 262144) = false := by simp; omega
    go_enter Try.func15, Try.ntmps15
    go_wp2
    go_ret
    exact ⟨rfl, rfl⟩

/-- Whole times first: it is the same. -/
theorem part_plain (t n m : Int) (h4 : 1 ≤ m) : t / m * n + t % m * n / m = t * n / m := by
  have e := Int.mul_ediv_add_emod t m
  have k : t * n = t % m * n + m * (t / m * n) := by
    have : (m * (t / m) + t % m) * n = t * n := by rw [e]
    rw [Int.add_mul, Int.mul_assoc] at this
    omega
  rw [k, Int.add_mul_ediv_left _ _ (show m ≠ 0 by omega)]
  omega

theorem up_plain (X m : Int) (h4 : 1 ≤ m) : (0 < X % m → (X + m - 1) / m = X / m + 1) ∧ (X % m = 0 → (X + m - 1) / m = X / m) := by
  have e := Int.mul_ediv_add_emod X m
  have r2 := Int.emod_lt_of_pos X (show 0 < m by omega)
  constructor
  · intro h
    have k : X + m - 1 = (X % m - 1) + m * (X / m + 1) := by rw [Int.mul_add, Int.mul_one]; omega
    rw [k, Int.add_mul_ediv_left _ _ (show m ≠ 0 by omega), Int.ediv_eq_zero_of_lt (by omega) (by omega)]; omega
  · intro h
    have k : X + m - 1 = (m - 1) + m * (X / m) := by omega
    rw [k, Int.add_mul_ediv_left _ _ (show m ≠ 0 by omega), Int.ediv_eq_zero_of_lt (by omega) (by omega)]; omega

theorem rem_same (t n m : Int) : t % m * n % m = t * n % m := by
  rw [Int.mul_emod, Int.emod_emod_of_dvd _ (Int.dvd_refl m), ← Int.mul_emod]

theorem part_down (t n m : Int) (w : World) (h0 : 0 ≤ t) (h1 : t ≤ 1099511627776) (h2 : 0 ≤ n) (h3 : n ≤ 2097152) (h4 : 1 ≤ m) (h5 : m ≤ 2097152) :
    Calls Try.prog 16 #[.int .i64 t, .int .i64 n, .int .i64 m, .bool false] w fun e w' => e = .returned (.int .i64 (t * n / m)) ∧ w = w' := by
  have q0 : 0 ≤ t / m := Int.ediv_nonneg h0 (by omega)
  have q1 : t / m ≤ t := Int.ediv_le_self _ h0
  have r0 : 0 ≤ t % m := Int.emod_nonneg _ (by omega)
  have r1 : t % m < m := Int.emod_lt_of_pos _ (by omega)
  obtain ⟨x0, x1⟩ := mul_bds (t % m) n 2097152 2097152 r0 (by omega) h2 h3
  obtain ⟨y0, y1⟩ := mul_bds (t / m) n 1099511627776 2097152 q0 (by omega) h2 h3
  have z0 : 0 ≤ t % m * n / m := Int.ediv_nonneg x0 (by omega)
  have z1 : t % m * n / m ≤ t % m * n := Int.ediv_le_self _ x0
  rw [← part_plain t n m h4]
  go_enter Try.func16, Try.ntmps16
  go_wp2
  go_ret
  exact ⟨rfl, rfl⟩

theorem part_up (t n m : Int) (w : World) (h0 : 0 ≤ t) (h1 : t ≤ 1099511627776) (h2 : 0 ≤ n) (h3 : n ≤ 2097152) (h4 : 1 ≤ m) (h5 : m ≤ 2097152) :
    Calls Try.prog 16 #[.int .i64 t, .int .i64 n, .int .i64 m, .bool true] w fun e w' => e = .returned (.int .i64 ((t * n + m - 1) / m)) ∧ w = w' := by
  have q0 : 0 ≤ t / m := Int.ediv_nonneg h0 (by omega)
  have q1 : t / m ≤ t := Int.ediv_le_self _ h0
  have r0 : 0 ≤ t % m := Int.emod_nonneg _ (by omega)
  have r1 : t % m < m := Int.emod_lt_of_pos _ (by omega)
  obtain ⟨x0, x1⟩ := mul_bds (t % m) n 2097152 2097152 r0 (by omega) h2 h3
  obtain ⟨y0, y1⟩ := mul_bds (t / m) n 1099511627776 2097152 q0 (by omega) h2 h3
  have z0 : 0 ≤ t % m * n / m := Int.ediv_nonneg x0 (by omega)
  have z1 : t % m * n / m ≤ t % m * n := Int.ediv_le_self _ x0
  have s0 : 0 ≤ t % m * n % m := Int.emod_nonneg _ (by omega)
  obtain ⟨u1, u2⟩ := up_plain (t * n) m h4
  rw [← rem_same t n m, ← part_plain t n m h4] at u1 u2
  by_cases k : 0 < t % m * n % m
  · rw [u1 k]
    clear u1 u2
    go_enter Try.func16, Try.ntmps16
    go_wp2
    go_ret
    exact ⟨rfl, rfl⟩
  · rw [u2 (by omega)]
    have k' : decide (0 < t % m * n % m) = false := by simpa using k
    clear u1 u2 k
    go_enter Try.func16, Try.ntmps16
    go_wp2
    go_ret
    exact ⟨rfl, rfl⟩

theorem qearly_ok (dur drift : Int) (w : World) (h0 : 0 ≤ dur) (h1 : dur < 1099511627776) (h2 : 0 ≤ drift) (h3 : drift ≤ 262144) :
    Calls Try.prog 5 #[.int .i64 dur, .int .i64 drift] w fun e w' => e = .returned (.tuple #[.int .i64 (earlyF dur drift), .int .i64 0]) ∧ w = w' := by
  by_cases h : dur = 0
  · have e : earlyF dur drift = 0 := by unfold earlyF; rw [if_pos h]
    rw [e]
    clear e
    subst h
    go_enter Try.func5, Try.ntmps5
    go_wp2_with (first | (go_at_call 14; refine (below_yes _ _ (by omega) (by omega)).mono ?_; rintro e w' ⟨rfl, rfl⟩) | (go_at_call 15; refine (drift_yes _ _ (by omega) (by omega)).mono ?_; rintro e w' ⟨rfl, rfl⟩))
    go_ret2
    exact ⟨rfl, rfl⟩
  · have e : earlyF dur drift = (dur - 1) * (1048576 - drift) / (1048576 + drift) := by unfold earlyF; rw [if_neg h]
    have hb : (dur == 0) = false := by simpa using h
    have hd : 1 ≤ dur := by omega
    rw [e]
    clear e h
    go_enter Try.func5, Try.ntmps5
    go_wp2_with (first | (go_at_call 14; refine (below_yes _ _ (by omega) (by omega)).mono ?_; rintro e w' ⟨rfl, rfl⟩) | (go_at_call 15; refine (drift_yes _ _ (by omega) (by omega)).mono ?_; rintro e w' ⟨rfl, rfl⟩) | (go_at_call 16; refine (part_down _ _ _ _ (by omega) (by omega) (by omega) (by omega) (by omega) (by omega)).mono ?_; rintro e w' ⟨rfl, rfl⟩))
    go_ret2
    exact ⟨rfl, rfl⟩

theorem qearly_tick (dur drift : Int) (w : World) (h : dur < 0 ∨ 1099511627776 ≤ dur) :
    Calls Try.prog 5 #[.int .i64 dur, .int .i64 drift] w fun e w' => e = .returned (.tuple #[.int .i64 0, .int .i64 1]) ∧ w = w' := by
  go_enter Try.func5, Try.ntmps5
  go_wp2_with (go_at_call 14; refine (below_no _ _ h).mono ?_; rintro e w' ⟨rfl, rfl⟩)
  go_ret2
  exact ⟨rfl, rfl⟩

theorem qearly_drift (dur drift : Int) (w : World) (h0 : 0 ≤ dur) (h1 : dur < 1099511627776) (h : drift < 0 ∨ 262144 < drift) :
    Calls Try.prog 5 #[.int .i64 dur, .int .i64 drift] w fun e w' => e = .returned (.tuple #[.int .i64 0, .int .i64 21]) ∧ w = w' := by
  go_enter Try.func5, Try.ntmps5
  go_wp2_with (first | (go_at_call 14; refine (below_yes _ _ (by omega) (by omega)).mono ?_; rintro e w' ⟨rfl, rfl⟩) | (go_at_call 15; refine (drift_no _ _ h).mono ?_; rintro e w' ⟨rfl, rfl⟩))
  go_ret2
  exact ⟨rfl, rfl⟩

theorem qguard_ok (dur drift : Int) (w : World) (h0 : 0 ≤ dur) (h1 : dur < 1099511627776) (h2 : 0 ≤ drift) (h3 : drift ≤ 262144) :
    Calls Try.prog 7 #[.int .i64 dur, .int .i64 drift] w fun e w' => e = .returned (.tuple #[.int .i64 (guardF dur drift), .int .i64 0]) ∧ w = w' := by
  obtain ⟨p0, p1⟩ := mul_bds (dur + 1) (1048576 + drift) 1099511627776 1310720 (by omega) (by omega) (by omega) (by omega)
  have eu : upF dur drift = ((dur + 1) * (1048576 + drift) + (1048576 - drift) - 1) / (1048576 - drift) + 1 := rfl
  have q0 : 0 ≤ ((dur + 1) * (1048576 + drift) + (1048576 - drift) - 1) / (1048576 - drift) := Int.ediv_nonneg (by omega) (by omega)
  have q1 : ((dur + 1) * (1048576 + drift) + (1048576 - drift) - 1) / (1048576 - drift) ≤ (dur + 1) * (1048576 + drift) + (1048576 - drift) - 1 := Int.ediv_le_self _ (by omega)
  by_cases h : upF dur drift ≤ 1099511627776
  · have e : guardF dur drift = ((dur + 1) * (1048576 + drift) + (1048576 - drift) - 1) / (1048576 - drift) + 1 := by unfold guardF; rw [if_pos h]; rfl
    rw [eu] at h
    rw [e]
    clear e eu
    go_enter Try.func7, Try.ntmps7
    go_wp2_with (first | (go_at_call 14; refine (below_yes _ _ (by omega) (by omega)).mono ?_; rintro e w' ⟨rfl, rfl⟩) | (go_at_call 15; refine (drift_yes _ _ (by omega) (by omega)).mono ?_; rintro e w' ⟨rfl, rfl⟩) | (go_at_call 16; refine (part_up _ _ _ _ (by omega) (by omega) (by omega) (by omega) (by omega) (by omega)).mono ?_; rintro e w' ⟨rfl, rfl⟩))
    go_ret2
    exact ⟨rfl, rfl⟩
  · have e : guardF dur drift = 1099511627776 := by unfold guardF; rw [if_neg h]
    rw [eu] at h
    rw [e]
    clear e eu
    go_enter Try.func7, Try.ntmps7
    go_wp2_with (first | (go_at_call 14; refine (below_yes _ _ (by omega) (by omega)).mono ?_; rintro e w' ⟨rfl, rfl⟩) | (go_at_call 15; refine (drift_yes _ _ (by omega) (by omega)).mono ?_; rintro e w' ⟨rfl, rfl⟩) | (go_at_call 16; refine (part_up _ _ _ _ (by omega) (by omega) (by omega) (by omega) (by omega) (by omega)).mono ?_; rintro e w' ⟨rfl, rfl⟩))
    go_ret2
    exact ⟨rfl, rfl⟩

theorem qguard_tick (dur drift : Int) (w : World) (h : dur < 0 ∨ 1099511627776 ≤ dur) :
    Calls Try.prog 7 #[.int .i64 dur, .int .i64 drift] w fun e w' => e = .returned (.tuple #[.int .i64 0, .int .i64 1]) ∧ w = w' := by
  go_enter Try.func7, Try.ntmps7
  go_wp2_with (go_at_call 14; refine (below_no _ _ h).mono ?_; rintro e w' ⟨rfl, rfl⟩)
  go_ret2
  exact ⟨rfl, rfl⟩

theorem qguard_drift (dur drift : Int) (w : World) (h0 : 0 ≤ dur) (h1 : dur < 1099511627776) (h : drift < 0 ∨ 262144 < drift) :
    Calls Try.prog 7 #[.int .i64 dur, .int .i64 drift] w fun e w' => e = .returned (.tuple #[.int .i64 0, .int .i64 21]) ∧ w = w' := by
  go_enter Try.func7, Try.ntmps7
  go_wp2_with (first | (go_at_call 14; refine (below_yes _ _ (by omega) (by omega)).mono ?_; rintro e w' ⟨rfl, rfl⟩) | (go_at_call 15; refine (drift_no _ _ h).mono ?_; rintro e w' ⟨rfl, rfl⟩))
  go_ret2
  exact ⟨rfl, rfl⟩

theorem qtrusts_ok (sent now dur drift : Int) (w : World) (s0 : 0 ≤ sent) (s1 : sent ≤ 1099511627776) (n0 : 0 ≤ now) (n1 : now ≤ 1099511627776)
    (h0 : 0 ≤ dur) (h1 : dur < 1099511627776) (h2 : 0 ≤ drift) (h3 : drift ≤ 262144) :
    Calls Try.prog 9 #[.int .i64 sent, .int .i64 now, .int .i64 dur, .int .i64 drift] w fun e w' =>
      e = .returned (.tuple #[.bool (trustsB sent now dur drift), .int .i64 0]) ∧ w = w' := by
  by_cases g : sent ≤ now
  · by_cases k : now - sent < earlyF dur drift
    · have e : trustsB sent now dur drift = true := by unfold trustsB; simp only [decide_eq_true_eq]; exact ⟨by omega, k⟩
      rw [e]
      clear e
      go_enter Try.func9, Try.ntmps9
      go_wp2_with (first | (go_at_call 18; refine (qright_yes _ _ (by omega) (by omega)).mono ?_; rintro e w' ⟨rfl, rfl⟩) | (go_at_call 14; refine (below_yes _ _ (by omega) (by omega)).mono ?_; rintro e w' ⟨rfl, rfl⟩) | (go_at_call 5; refine (qearly_ok _ _ _ (by omega) (by omega) (by omega) (by omega)).mono ?_; rintro e w' ⟨rfl, rfl⟩))
      go_ret2
      exact ⟨rfl, rfl⟩
    · have e : trustsB sent now dur drift = false := by unfold trustsB; simp only [decide_eq_false_iff_not]; exact fun h => k h.2
      have kd : decide (now - sent < earlyF dur drift) = false := by simpa using k
      rw [e]
      clear e k
      go_enter Try.func9, Try.ntmps9
      go_wp2_with (first | (go_at_call 18; refine (qright_yes _ _ (by omega) (by omega)).mono ?_; rintro e w' ⟨rfl, rfl⟩) | (go_at_call 14; refine (below_yes _ _ (by omega) (by omega)).mono ?_; rintro e w' ⟨rfl, rfl⟩) | (go_at_call 5; refine (qearly_ok _ _ _ (by omega) (by omega) (by omega) (by omega)).mono ?_; rintro e w' ⟨rfl, rfl⟩))
      go_ret2
      exact ⟨rfl, rfl⟩
  · have e : trustsB sent now dur drift = false := by unfold trustsB; simp only [decide_eq_false_iff_not]; exact fun h => g (by omega)
    have g' : decide (sent ≤ now) = false := by simpa using g
    rw [e]
    clear e g
    go_enter Try.func9, Try.ntmps9
    go_wp2_with (first | (go_at_call 18; refine (qright_yes _ _ (by omega) (by omega)).mono ?_; rintro e w' ⟨rfl, rfl⟩) | (go_at_call 14; refine (below_yes _ _ (by omega) (by omega)).mono ?_; rintro e w' ⟨rfl, rfl⟩) | (go_at_call 5; refine (qearly_ok _ _ _ (by omega) (by omega) (by omega) (by omega)).mono ?_; rintro e w' ⟨rfl, rfl⟩))
    go_ret2
    exact ⟨rfl, rfl⟩

theorem qtrusts_bad (sent now dur drift : Int) (w : World) (h : sent < 0 ∨ 1099511627776 < sent ∨ now < 0 ∨ 1099511627776 < now ∨ dur < 0 ∨ 1099511627776 ≤ dur) :
    Calls Try.prog 9 #[.int .i64 sent, .int .i64 now, .int .i64 dur, .int .i64 drift] w fun e w' =>
      e = .returned (.tuple #[.bool false, .int .i64 1]) ∧ w = w' := by
  by_cases hg : 0 ≤ sent ∧ sent ≤ 1099511627776
  · obtain ⟨g0, g1⟩ := hg
    by_cases hn : 0 ≤ now ∧ now ≤ 1099511627776
    · obtain ⟨n0, n1⟩ := hn
      have hd : dur < 0 ∨ 1099511627776 ≤ dur := by omega
      clear h
      go_enter Try.func9, Try.ntmps9
      go_wp2_with (first | (go_at_call 18; refine (qright_yes _ _ (by omega) (by omega)).mono ?_; rintro e w' ⟨rfl, rfl⟩) | (go_at_call 14; refine (below_no _ _ hd).mono ?_; rintro e w' ⟨rfl, rfl⟩))
      go_ret2
      exact ⟨rfl, rfl⟩
    · have hd : now < 0 ∨ 1099511627776 < now := by omega
      clear h hn
      go_enter Try.func9, Try.ntmps9
      go_wp2_with fail
      refine (qright_yes _ _ (by omega) (by omega)).mono ?_; rintro e w' ⟨rfl, rfl⟩
      go_wp2_with fail
      refine (qright_no _ _ hd).mono ?_; rintro e w' ⟨rfl, rfl⟩
      go_wp2_with fail
      go_ret2
      exact ⟨rfl, rfl⟩
  · have hd : sent < 0 ∨ 1099511627776 < sent := by omega
    clear h hg
    go_enter Try.func9, Try.ntmps9
    go_wp2_with fail
    refine (qright_no _ _ hd).mono ?_; rintro e w' ⟨rfl, rfl⟩
    go_wp2_with fail
    go_ret2
    exact ⟨rfl, rfl⟩

theorem qtrusts_drift (sent now dur drift : Int) (w : World) (s0 : 0 ≤ sent) (s1 : sent ≤ 1099511627776) (n0 : 0 ≤ now) (n1 : now ≤ 1099511627776)
    (h0 : 0 ≤ dur) (h1 : dur < 1099511627776) (h : drift < 0 ∨ 262144 < drift) :
    Calls Try.prog 9 #[.int .i64 sent, .int .i64 now, .int .i64 dur, .int .i64 drift] w fun e w' =>
      e = .returned (.tuple #[.bool false, .int .i64 21]) ∧ w = w' := by
  go_enter Try.func9, Try.ntmps9
  go_wp2_with (first | (go_at_call 18; refine (qright_yes _ _ (by omega) (by omega)).mono ?_; rintro e w' ⟨rfl, rfl⟩) | (go_at_call 14; refine (below_yes _ _ (by omega) (by omega)).mono ?_; rintro e w' ⟨rfl, rfl⟩) | (go_at_call 5; refine (qearly_drift _ _ _ h0 h1 h).mono ?_; rintro e w' ⟨rfl, rfl⟩))
  go_ret2
  exact ⟨rfl, rfl⟩

theorem qlapsed_ok (got now dur : Int) (w : World) (s0 : 0 ≤ got) (s1 : got ≤ 1099511627776) (n0 : 0 ≤ now) (n1 : now ≤ 1099511627776)
    (h0 : 0 ≤ dur) (h1 : dur < 1099511627776) :
    Calls Try.prog 11 #[.int .i64 got, .int .i64 now, .int .i64 dur] w fun e w' =>
      e = .returned (.tuple #[.bool (lapsedB got now dur), .int .i64 0]) ∧ w = w' := by
  by_cases k : dur ≤ now - got
  · have e : lapsedB got now dur = true := by unfold lapsedB; simpa using k
    rw [e]
    clear e
    go_enter Try.func11, Try.ntmps11
    go_wp2_with (first | (go_at_call 18; refine (qright_yes _ _ (by omega) (by omega)).mono ?_; rintro e w' ⟨rfl, rfl⟩) | (go_at_call 14; refine (below_yes _ _ (by omega) (by omega)).mono ?_; rintro e w' ⟨rfl, rfl⟩))
    go_ret2
    exact ⟨rfl, rfl⟩
  · have e : lapsedB got now dur = false := by unfold lapsedB; simpa using k
    have kd : decide (dur ≤ now - got) = false := by simpa using k
    rw [e]
    clear e k
    go_enter Try.func11, Try.ntmps11
    go_wp2_with (first | (go_at_call 18; refine (qright_yes _ _ (by omega) (by omega)).mono ?_; rintro e w' ⟨rfl, rfl⟩) | (go_at_call 14; refine (below_yes _ _ (by omega) (by omega)).mono ?_; rintro e w' ⟨rfl, rfl⟩))
    go_ret2
    exact ⟨rfl, rfl⟩

theorem qlapsed_bad (got now dur : Int) (w : World) (h : got < 0 ∨ 1099511627776 < got ∨ now < 0 ∨ 1099511627776 < now ∨ dur < 0 ∨ 1099511627776 ≤ dur) :
    Calls Try.prog 11 #[.int .i64 got, .int .i64 now, .int .i64 dur] w fun e w' =>
      e = .returned (.tuple #[.bool false, .int .i64 1]) ∧ w = w' := by
  by_cases hg : 0 ≤ got ∧ got ≤ 1099511627776
  · obtain ⟨g0, g1⟩ := hg
    by_cases hn : 0 ≤ now ∧ now ≤ 1099511627776
    · obtain ⟨n0, n1⟩ := hn
      have hd : dur < 0 ∨ 1099511627776 ≤ dur := by omega
      clear h
      go_enter Try.func11, Try.ntmps11
      go_wp2_with (first | (go_at_call 18; refine (qright_yes _ _ (by omega) (by omega)).mono ?_; rintro e w' ⟨rfl, rfl⟩) | (go_at_call 14; refine (below_no _ _ hd).mono ?_; rintro e w' ⟨rfl, rfl⟩))
      go_ret2
      exact ⟨rfl, rfl⟩
    · have hd : now < 0 ∨ 1099511627776 < now := by omega
      clear h hn
      go_enter Try.func11, Try.ntmps11
      go_wp2_with fail
      refine (qright_yes _ _ (by omega) (by omega)).mono ?_; rintro e w' ⟨rfl, rfl⟩
      go_wp2_with fail
      refine (qright_no _ _ hd).mono ?_; rintro e w' ⟨rfl, rfl⟩
      go_wp2_with fail
      go_ret2
      exact ⟨rfl, rfl⟩
  · have hd : got < 0 ∨ 1099511627776 < got := by omega
    clear h hg
    go_enter Try.func11, Try.ntmps11
    go_wp2_with fail
    refine (qright_no _ _ hd).mono ?_; rintro e w' ⟨rfl, rfl⟩
    go_wp2_with fail
    go_ret2
    exact ⟨rfl, rfl⟩

end Go.Proofs.Ytmenifpibbjicab.base
