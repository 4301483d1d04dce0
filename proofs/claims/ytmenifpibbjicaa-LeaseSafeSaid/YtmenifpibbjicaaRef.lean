/-
  The contracts of the page's own answers for the package tick (hanseref01), each once: they are the same functions of Lean that tick's own contracts name.
-/
import Derived.Test.YtmenifpibbjicaaShare
namespace Go.Proofs.Ytmenifpibbjicaa.base
open Go.RowKit

theorem rright_yes (t : Int) (w : World) (h0 : 0 ≤ t) (h1 : t ≤ 1099511627776) :
    Calls Try.prog 30 #[.int .i64 t] w fun e w' => e = .returned (.bool true) ∧ w = w' := by
  go_enter Try.func30, Try.ntmps30
  go_wp2
  go_ret
  exact ⟨rfl, rfl⟩

theorem rright_no (t : Int) (w : World) (h : t < 0 ∨ 1099511627776 < t) :
    Calls Try.prog 30 #[.int .i64 t] w fun e w' => e = .returned (.bool false) ∧ w = w' := by
  rcases h with h | h
  · go_enter Try.func30, Try.ntmps30
    go_wp2
    go_ret
    exact ⟨rfl, rfl⟩
  · have h0 : 0 ≤ t := by omega
    have hd : decide (t ≤ 1099511627776) = false := by simp; omega
    go_enter Try.func30, Try.ntmps30
    go_wp2
    go_ret
    exact ⟨rfl, rfl⟩

theorem radd_ok (t d : Int) (w : World) (h0 : 0 ≤ t) (h1 : t ≤ 1099511627776) (h2 : 0 ≤ d) (h3 : d ≤ 1099511627776) :
    Calls Try.prog 31 #[.int .i64 t, .int .i64 d] w fun e w' => e = .returned (.tuple #[.int .i64 (addF t d), .int .i64 0]) ∧ w = w' := by
  by_cases h : t + d ≤ 1099511627776
  · have e : addF t d = t + d := by unfold addF; rw [if_pos h]
    rw [e]
    clear e
    go_enter Try.func31, Try.ntmps31
    go_wp2_with (go_at_call 30; refine (rright_yes _ _ (by omega) (by omega)).mono ?_; rintro e w' ⟨rfl, rfl⟩)
    go_ret2
    exact ⟨rfl, rfl⟩
  · have e : addF t d = 1099511627776 := by unfold addF; rw [if_neg h]
    rw [e]
    clear e
    go_enter Try.func31, Try.ntmps31
    go_wp2_with (go_at_call 30; refine (rright_yes _ _ (by omega) (by omega)).mono ?_; rintro e w' ⟨rfl, rfl⟩)
    go_ret2
    exact ⟨rfl, rfl⟩

theorem radd_bad (t d : Int) (w : World) (h : t < 0 ∨ 1099511627776 < t ∨ d < 0 ∨ 1099511627776 < d) :
    Calls Try.prog 31 #[.int .i64 t, .int .i64 d] w fun e w' => e = .returned (.tuple #[.int .i64 0, .int .i64 1]) ∧ w = w' := by
  by_cases ht : 0 ≤ t ∧ t ≤ 1099511627776
  · obtain ⟨h0, h1⟩ := ht
    have hd : d < 0 ∨ 1099511627776 < d := by omega
    clear h
    go_enter Try.func31, Try.ntmps31
    go_wp2_with fail
    refine (rright_yes _ _ (by omega) (by omega)).mono ?_; rintro e w' ⟨rfl, rfl⟩
    go_wp2_with fail
    refine (rright_no _ _ (by omega)).mono ?_; rintro e w' ⟨rfl, rfl⟩
    go_wp2_with fail
    go_ret2
    exact ⟨rfl, rfl⟩
  · go_enter Try.func31, Try.ntmps31
    go_wp2_with fail
    refine (rright_no _ _ (by omega)).mono ?_; rintro e w' ⟨rfl, rfl⟩
    go_wp2_with fail
    go_ret2
    exact ⟨rfl, rfl⟩

theorem rsub_ok (t d : Int) (w : World) (h0 : 0 ≤ t) (h1 : t ≤ 1099511627776) (h2 : 0 ≤ d) (h3 : d ≤ 1099511627776) :
    Calls Try.prog 32 #[.int .i64 t, .int .i64 d] w fun e w' => e = .returned (.tuple #[.int .i64 (subF t d), .int .i64 0]) ∧ w = w' := by
  by_cases h : t = 1099511627776
  · subst h
    have e : subF 1099511627776 d = 1099511627776 := by unfold subF; rw [if_pos rfl]
    rw [e]
    clear e
    go_enter Try.func32, Try.ntmps32
    go_wp2_with (go_at_call 30; refine (rright_yes _ _ (by omega) (by omega)).mono ?_; rintro e w' ⟨rfl, rfl⟩)
    go_ret2
    exact ⟨rfl, rfl⟩
  · have hb : (t == 1099511627776) = false := by simpa using h
    by_cases h' : t ≤ d
    · have e : subF t d = 0 := by
        unfold subF; rw [if_neg h]; split <;> omega
      rw [e]
      clear e h
      go_enter Try.func32, Try.ntmps32
      go_wp2_with (go_at_call 30; refine (rright_yes _ _ (by omega) (by omega)).mono ?_; rintro e w' ⟨rfl, rfl⟩)
      go_ret2
      exact ⟨rfl, rfl⟩
    · have e : subF t d = t - d := by unfold subF; rw [if_neg h, if_pos (by omega)]
      rw [e]
      clear e h
      go_enter Try.func32, Try.ntmps32
      go_wp2_with (go_at_call 30; refine (rright_yes _ _ (by omega) (by omega)).mono ?_; rintro e w' ⟨rfl, rfl⟩)
      go_ret2
      exact ⟨rfl, rfl⟩

theorem rsub_bad (t d : Int) (w : World) (h : t < 0 ∨ 1099511627776 < t ∨ d < 0 ∨ 1099511627776 < d) :
    Calls Try.prog 32 #[.int .i64 t, .int .i64 d] w fun e w' => e = .returned (.tuple #[.int .i64 0, .int .i64 1]) ∧ w = w' := by
  by_cases ht : 0 ≤ t ∧ t ≤ 1099511627776
  · obtain ⟨h0, h1⟩ := ht
    have hd : d < 0 ∨ 1099511627776 < d := by omega
    clear h
    go_enter Try.func32, Try.ntmps32
    go_wp2_with fail
    refine (rright_yes _ _ (by omega) (by omega)).mono ?_; rintro e w' ⟨rfl, rfl⟩
    go_wp2_with fail
    refine (rright_no _ _ (by omega)).mono ?_; rintro e w' ⟨rfl, rfl⟩
    go_wp2_with fail
    go_ret2
    exact ⟨rfl, rfl⟩
  · go_enter Try.func32, Try.ntmps32
    go_wp2_with fail
    refine (rright_no _ _ (by omega)).mono ?_; rintro e w' ⟨rfl, rfl⟩
    go_wp2_with fail
    go_ret2
    exact ⟨rfl, rfl⟩

theorem may_yes (t num den : Int) (w : World) (hm : May t num den) :
    Calls Try.prog 39 #[.int .i64 t, .int .i64 num, .int .i64 den] w fun e w' => e = .returned (.bool true) ∧ w = w' := by
  obtain ⟨h0, h1, h2, h3, h4, h5⟩ := hm
  go_enter Try.func39, Try.ntmps39
  go_wp2_with (go_at_call 30; refine (rright_yes _ _ (by omega) (by omega)).mono ?_; rintro e w' ⟨rfl, rfl⟩)
  go_ret
  exact ⟨rfl, rfl⟩

theorem may_no (t num den : Int) (w : World) (hm : ¬ May t num den) :
    Calls Try.prog 39 #[.int .i64 t, .int .i64 num, .int .i64 den] w fun e w' => e = .returned (.bool false) ∧ w = w' := by
  by_cases ht : 0 ≤ t ∧ t ≤ 1099511627776
  · obtain ⟨h0, h1⟩ := ht
    by_cases g1 : 0 ≤ num
    · by_cases g2 : num ≤ 1048576
      · by_cases g3 : 1 ≤ den
        · have g4 : decide (den ≤ 1048576) = false := by
            have : ¬ den ≤ 1048576 := fun h => hm ⟨h0, h1, g1, g2, g3, h⟩
            simpa using this
          clear hm
          go_enter Try.func39, Try.ntmps39
          go_wp2_with (go_at_call 30; refine (rright_yes _ _ (by omega) (by omega)).mono ?_; rintro e w' ⟨rfl, rfl⟩)
          go_ret
          exact ⟨rfl, rfl⟩
        · have g4 : decide (1 ≤ den) = false := by simpa using g3
          clear hm
          go_enter Try.func39, Try.ntmps39
          go_wp2_with (go_at_call 30; refine (rright_yes _ _ (by omega) (by omega)).mono ?_; rintro e w' ⟨rfl, rfl⟩)
          go_ret
          exact ⟨rfl, rfl⟩
      · have g4 : decide (num ≤ 1048576) = false := by simpa using g2
        clear hm
        go_enter Try.func39, Try.ntmps39
        go_wp2_with (go_at_call 30; refine (rright_yes _ _ (by omega) (by omega)).mono ?_; rintro e w' ⟨rfl, rfl⟩)
        go_ret
        exact ⟨rfl, rfl⟩
    · have g4 : decide (0 ≤ num) = false := by simpa using g1
      clear hm
      go_enter Try.func39, Try.ntmps39
      go_wp2_with (go_at_call 30; refine (rright_yes _ _ (by omega) (by omega)).mono ?_; rintro e w' ⟨rfl, rfl⟩)
      go_ret
      exact ⟨rfl, rfl⟩
  · clear hm
    go_enter Try.func39, Try.ntmps39
    go_wp2_with (go_at_call 30; refine (rright_no _ _ (by omega)).mono ?_; rintro e w' ⟨rfl, rfl⟩)
    go_ret
    exact ⟨rfl, rfl⟩

/-- At most Forever. -/
def cutF (t : Int) : Int := if t ≤ 1099511627776 then t else 1099511627776

theorem cut_any (t : Int) (w : World) : Calls Try.prog 40 #[.int .i64 t] w fun e w' => e = .returned (.int .i64 (cutF t)) ∧ w = w' := by
  by_cases h : t ≤ 1099511627776
  · have e : cutF t = t := by unfold cutF; rw [if_pos h]
    rw [e]
    clear e
    go_enter Try.func40, Try.ntmps40
    go_wp2
    go_ret
    exact ⟨rfl, rfl⟩
  · have e : cutF t = 1099511627776 := by unfold cutF; rw [if_neg h]
    rw [e]
    clear e
    go_enter Try.func40, Try.ntmps40
    go_wp2
    go_ret
    exact ⟨rfl, rfl⟩

theorem rshare_ok (t num den : Int) (w : World) (hm : May t num den) :
    Calls Try.prog 33 #[.int .i64 t, .int .i64 num, .int .i64 den] w fun e w' => e = .returned (.tuple #[.int .i64 (shareF t num den 0), .int .i64 0]) ∧ w = w' := by
  have hm' := hm
  obtain ⟨h0, h1, h2, h3, h4, h5⟩ := hm'
  obtain ⟨p0, p1⟩ := mul_bd t num h0 h1 h2 h3
  by_cases h : t = 1099511627776
  · subst h
    have e : shareF 1099511627776 num den 0 = 1099511627776 := by unfold shareF; rw [if_pos rfl]
    rw [e]
    clear e
    go_enter Try.func33, Try.ntmps33
    go_wp2_with (go_at_call 39; refine (may_yes _ _ _ _ hm).mono ?_; rintro e w' ⟨rfl, rfl⟩)
    go_ret2
    exact ⟨rfl, rfl⟩
  · have hb : (t == 1099511627776) = false := by simpa using h
    have e : shareF t num den 0 = cutF (t * num / den) := by unfold shareF cutF; rw [if_neg h, Int.add_zero]
    rw [e]
    clear e h
    go_enter Try.func33, Try.ntmps33
    go_wp2_with (first | (go_at_call 39; refine (may_yes _ _ _ _ hm).mono ?_; rintro e w' ⟨rfl, rfl⟩) | (go_at_call 40; refine (cut_any _ _).mono ?_; rintro e w' ⟨rfl, rfl⟩))
    go_ret2
    exact ⟨rfl, rfl⟩

theorem rshare_bad (t num den : Int) (w : World) (hm : ¬ May t num den) :
    Calls Try.prog 33 #[.int .i64 t, .int .i64 num, .int .i64 den] w fun e w' => e = .returned (.tuple #[.int .i64 0, .int .i64 1]) ∧ w = w' := by
  go_enter Try.func33, Try.ntmps33
  go_wp2_with (go_at_call 39; refine (may_no _ _ _ _ hm).mono ?_; rintro e w' ⟨rfl, rfl⟩)
  go_ret2
  exact ⟨rfl, rfl⟩

theorem rshareUp_ok (t num den : Int) (w : World) (hm : May t num den) :
    Calls Try.prog 34 #[.int .i64 t, .int .i64 num, .int .i64 den] w fun e w' => e = .returned (.tuple #[.int .i64 (shareF t num den (den - 1)), .int .i64 0]) ∧ w = w' := by
  have hm' := hm
  obtain ⟨h0, h1, h2, h3, h4, h5⟩ := hm'
  obtain ⟨p0, p1⟩ := mul_bd t num h0 h1 h2 h3
  by_cases h : t = 1099511627776
  · subst h
    have e : shareF 1099511627776 num den (den - 1) = 1099511627776 := by unfold shareF; rw [if_pos rfl]
    rw [e]
    clear e
    go_enter Try.func34, Try.ntmps34
    go_wp2_with (go_at_call 39; refine (may_yes _ _ _ _ hm).mono ?_; rintro e w' ⟨rfl, rfl⟩)
    go_ret2
    exact ⟨rfl, rfl⟩
  · have hb : (t == 1099511627776) = false := by simpa using h
    have e : shareF t num den (den - 1) = cutF ((t * num + den - 1) / den) := by unfold shareF cutF; rw [if_neg h, show t * num + (den - 1) = t * num + den - 1 from by omega]
    rw [e]
    clear e h
    go_enter Try.func34, Try.ntmps34
    go_wp2_with (first | (go_at_call 39; refine (may_yes _ _ _ _ hm).mono ?_; rintro e w' ⟨rfl, rfl⟩) | (go_at_call 40; refine (cut_any _ _).mono ?_; rintro e w' ⟨rfl, rfl⟩))
    go_ret2
    exact ⟨rfl, rfl⟩

theorem rshareUp_bad (t num den : Int) (w : World) (hm : ¬ May t num den) :
    Calls Try.prog 34 #[.int .i64 t, .int .i64 num, .int .i64 den] w fun e w' => e = .returned (.tuple #[.int .i64 0, .int .i64 1]) ∧ w = w' := by
  go_enter Try.func34, Try.ntmps34
  go_wp2_with (go_at_call 39; refine (may_no _ _ _ _ hm).mono ?_; rintro e w' ⟨rfl, rfl⟩)
  go_ret2
  exact ⟨rfl, rfl⟩

end Go.Proofs.Ytmenifpibbjicaa.base
