/-
  The contracts of the package tick, each once: what a call returns; the world stays as it is.
-/
import Derived.Test.YtmenifpibbjicaaRight
namespace Go.Proofs.Ytmenifpibbjicaa.base
open Go.RowKit

/-- A sum of ticks, at most Forever. -/
def addF (t d : Int) : Int := if t + d ≤ 1099511627776 then t + d else 1099511627776

theorem add_ok (t d : Int) (w : World) (h0 : 0 ≤ t) (h1 : t ≤ 1099511627776) (h2 : 0 ≤ d) (h3 : d ≤ 1099511627776) :
    Calls Try.prog 17 #[.int .i64 t, .int .i64 d] w fun e w' => e = .returned (.tuple #[.int .i64 (addF t d), .int .i64 0]) ∧ w = w' := by
  by_cases h : t + d ≤ 1099511627776
  · have e : addF t d = t + d := by unfold addF; rw [if_pos h]
    rw [e]
    clear e
    go_enter Try.func17, Try.ntmps17
    go_wp2_with (go_at_call 15; refine (right_yes _ _ (by omega) (by omega)).mono ?_; rintro e w' ⟨rfl, rfl⟩)
    go_ret2
    exact ⟨rfl, rfl⟩
  · have e : addF t d = 1099511627776 := by unfold addF; rw [if_neg h]
    rw [e]
    clear e
    go_enter Try.func17, Try.ntmps17
    go_wp2_with (go_at_call 15; refine (right_yes _ _ (by omega) (by omega)).mono ?_; rintro e w' ⟨rfl, rfl⟩)
    go_ret2
    exact ⟨rfl, rfl⟩

theorem add_bad (t d : Int) (w : World) (h : t < 0 ∨ 1099511627776 < t ∨ d < 0 ∨ 1099511627776 < d) :
    Calls Try.prog 17 #[.int .i64 t, .int .i64 d] w fun e w' => e = .returned (.tuple #[.int .i64 0, .int .i64 1]) ∧ w = w' := by
  by_cases ht : 0 ≤ t ∧ t ≤ 1099511627776
  · obtain ⟨h0, h1⟩ := ht
    have hd : d < 0 ∨ 1099511627776 < d := by omega
    clear h
    go_enter Try.func17, Try.ntmps17
    go_wp2_with fail
    refine (right_yes _ _ (by omega) (by omega)).mono ?_; rintro e w' ⟨rfl, rfl⟩
    go_wp2_with fail
    refine (right_no _ _ (by omega)).mono ?_; rintro e w' ⟨rfl, rfl⟩
    go_wp2_with fail
    go_ret2
    exact ⟨rfl, rfl⟩
  · go_enter Try.func17, Try.ntmps17
    go_wp2_with fail
    refine (right_no _ _ (by omega)).mono ?_; rintro e w' ⟨rfl, rfl⟩
    go_wp2_with fail
    go_ret2
    exact ⟨rfl, rfl⟩

/-- A tick less another: Forever stays. -/
def subF (t d : Int) : Int := if t = 1099511627776 then 1099511627776 else if 0 ≤ t - d then t - d else 0

theorem sub_ok (t d : Int) (w : World) (h0 : 0 ≤ t) (h1 : t ≤ 1099511627776) (h2 : 0 ≤ d) (h3 : d ≤ 1099511627776) :
    Calls Try.prog 18 #[.int .i64 t, .int .i64 d] w fun e w' => e = .returned (.tuple #[.int .i64 (subF t d), .int .i64 0]) ∧ w = w' := by
  by_cases h : t = 1099511627776
  · subst h
    have e : subF 1099511627776 d = 1099511627776 := by unfold subF; rw [if_pos rfl]
    rw [e]
    clear e
    go_enter Try.func18, Try.ntmps18
    go_wp2_with (go_at_call 15; refine (right_yes _ _ (by omega) (by omega)).mono ?_; rintro e w' ⟨rfl, rfl⟩)
    go_ret2
    exact ⟨rfl, rfl⟩
  · have hb : (t == 1099511627776) = false := by simpa using h
    by_cases h' : 0 ≤ t - d
    · have e : subF t d = t - d := by unfold subF; rw [if_neg h, if_pos h']
      rw [e]
      clear e h
      go_enter Try.func18, Try.ntmps18
      go_wp2_with (go_at_call 15; refine (right_yes _ _ (by omega) (by omega)).mono ?_; rintro e w' ⟨rfl, rfl⟩)
      go_ret2
      exact ⟨rfl, rfl⟩
    · have e : subF t d = 0 := by unfold subF; rw [if_neg h, if_neg h']
      rw [e]
      clear e h
      go_enter Try.func18, Try.ntmps18
      go_wp2_with (go_at_call 15; refine (right_yes _ _ (by omega) (by omega)).mono ?_; rintro e w' ⟨rfl, rfl⟩)
      go_ret2
      exact ⟨rfl, rfl⟩

theorem sub_bad (t d : Int) (w : World) (h : t < 0 ∨ 1099511627776 < t ∨ d < 0 ∨ 1099511627776 < d) :
    Calls Try.prog 18 #[.int .i64 t, .int .i64 d] w fun e w' => e = .returned (.tuple #[.int .i64 0, .int .i64 1]) ∧ w = w' := by
  by_cases ht : 0 ≤ t ∧ t ≤ 1099511627776
  · obtain ⟨h0, h1⟩ := ht
    have hd : d < 0 ∨ 1099511627776 < d := by omega
    clear h
    go_enter Try.func18, Try.ntmps18
    go_wp2_with fail
    refine (right_yes _ _ (by omega) (by omega)).mono ?_; rintro e w' ⟨rfl, rfl⟩
    go_wp2_with fail
    refine (right_no _ _ (by omega)).mono ?_; rintro e w' ⟨rfl, rfl⟩
    go_wp2_with fail
    go_ret2
    exact ⟨rfl, rfl⟩
  · go_enter Try.func18, Try.ntmps18
    go_wp2_with fail
    refine (right_no _ _ (by omega)).mono ?_; rintro e w' ⟨rfl, rfl⟩
    go_wp2_with fail
    go_ret2
    exact ⟨rfl, rfl⟩

theorem wakes (w : World) : Calls Try.prog 16 #[] w fun e w' => e = .returned (.bool true) ∧ w = w' := by
  go_enter Try.func16, Try.ntmps16
  go_wp2_with fail
  refine (add_ok _ _ _ (by omega) (by omega) (by omega) (by omega)).mono ?_; rintro e w' ⟨rfl, rfl⟩
  have e : addF 3 5 = 8 := by decide
  rw [e]
  clear e
  go_wp2_with fail
  go_ret
  exact ⟨rfl, rfl⟩

/-- When tick.share takes its arguments. -/
def May (t num den : Int) : Prop := 0 ≤ t ∧ t ≤ 1099511627776 ∧ 0 ≤ num ∧ num ≤ 1048576 ∧ 1 ≤ den ∧ den ≤ 1048576

/-- A share: (t num + more) / den, at most Forever; Forever stays. -/
def shareF (t num den more : Int) : Int :=
  if t = 1099511627776 then 1099511627776 else if (t * num + more) / den ≤ 1099511627776 then (t * num + more) / den else 1099511627776

theorem mul_bd (t num : Int) (h0 : 0 ≤ t) (h1 : t ≤ 1099511627776) (h2 : 0 ≤ num) (h3 : num ≤ 1048576) : 0 ≤ t * num ∧ t * num ≤ 1152921504606846976 := by
  refine ⟨Int.mul_nonneg h0 h2, ?_⟩
  have := Int.mul_le_mul h1 h3 h2 (by omega : (0 : Int) ≤ 1099511627776)
  omega

theorem share_ok (t num den more : Int) (w : World) (hm : May t num den) (m0 : 0 ≤ more) (m1 : more ≤ 1048576) :
    Calls Try.prog 37 #[.int .i64 t, .int .i64 num, .int .i64 den, .int .i64 more] w fun e w' => e = .returned (.tuple #[.int .i64 (shareF t num den more), .int .i64 0]) ∧ w = w' := by
  obtain ⟨h0, h1, h2, h3, h4, h5⟩ := hm
  obtain ⟨p0, p1⟩ := mul_bd t num h0 h1 h2 h3
  by_cases h : t = 1099511627776
  · subst h
    have e : shareF 1099511627776 num den more = 1099511627776 := by unfold shareF; rw [if_pos rfl]
    rw [e]
    clear e
    go_enter Try.func37, Try.ntmps37
    go_wp2_with (go_at_call 15; refine (right_yes _ _ (by omega) (by omega)).mono ?_; rintro e w' ⟨rfl, rfl⟩)
    go_ret2
    exact ⟨rfl, rfl⟩
  · have hb : (t == 1099511627776) = false := by simpa using h
    by_cases h' : (t * num + more) / den ≤ 1099511627776
    · have e : shareF t num den more = (t * num + more) / den := by unfold shareF; rw [if_neg h, if_pos h']
      rw [e]
      clear e h
      go_enter Try.func37, Try.ntmps37
      go_wp2_with (go_at_call 15; refine (right_yes _ _ (by omega) (by omega)).mono ?_; rintro e w' ⟨rfl, rfl⟩)
      go_ret2
      exact ⟨rfl, rfl⟩
    · have e : shareF t num den more = 1099511627776 := by unfold shareF; rw [if_neg h, if_neg h']
      rw [e]
      clear e h
      go_enter Try.func37, Try.ntmps37
      go_wp2_with (go_at_call 15; refine (right_yes _ _ (by omega) (by omega)).mono ?_; rintro e w' ⟨rfl, rfl⟩)
      go_ret2
      exact ⟨rfl, rfl⟩

theorem share_bad (t num den more : Int) (w : World) (hm : ¬ May t num den) :
    Calls Try.prog 37 #[.int .i64 t, .int .i64 num, .int .i64 den, .int .i64 more] w fun e w' => e = .returned (.tuple #[.int .i64 0, .int .i64 1]) ∧ w = w' := by
  by_cases ht : 0 ≤ t ∧ t ≤ 1099511627776
  · obtain ⟨h0, h1⟩ := ht
    by_cases g1 : num < 0
    · clear hm
      go_enter Try.func37, Try.ntmps37
      go_wp2_with (go_at_call 15; refine (right_yes _ _ (by omega) (by omega)).mono ?_; rintro e w' ⟨rfl, rfl⟩)
      go_ret2
      exact ⟨rfl, rfl⟩
    · by_cases g2 : 1048576 < num
      · clear hm
        go_enter Try.func37, Try.ntmps37
        go_wp2_with (go_at_call 15; refine (right_yes _ _ (by omega) (by omega)).mono ?_; rintro e w' ⟨rfl, rfl⟩)
        go_ret2
        exact ⟨rfl, rfl⟩
      · by_cases g3 : den < 1
        · clear hm
          go_enter Try.func37, Try.ntmps37
          go_wp2_with (go_at_call 15; refine (right_yes _ _ (by omega) (by omega)).mono ?_; rintro e w' ⟨rfl, rfl⟩)
          go_ret2
          exact ⟨rfl, rfl⟩
        · have g4 : 1048576 < den := by
            by_cases g : 1048576 < den
            · exact g
            · exact absurd ⟨h0, h1, by omega, by omega, by omega, by omega⟩ hm
          clear hm
          go_enter Try.func37, Try.ntmps37
          go_wp2_with (go_at_call 15; refine (right_yes _ _ (by omega) (by omega)).mono ?_; rintro e w' ⟨rfl, rfl⟩)
          go_ret2
          exact ⟨rfl, rfl⟩
  · clear hm
    go_enter Try.func37, Try.ntmps37
    go_wp2_with (go_at_call 15; refine (right_no _ _ (by omega)).mono ?_; rintro e w' ⟨rfl, rfl⟩)
    go_ret2
    exact ⟨rfl, rfl⟩

theorem Share_ok (t num den : Int) (w : World) (hm : May t num den) :
    Calls Try.prog 23 #[.int .i64 t, .int .i64 num, .int .i64 den] w fun e w' => e = .returned (.tuple #[.int .i64 (shareF t num den 0), .int .i64 0]) ∧ w = w' := by
  go_enter Try.func23, Try.ntmps23
  go_wp2_with (go_at_call 37; refine (share_ok _ _ _ _ _ hm (by omega) (by omega)).mono ?_; rintro e w' ⟨rfl, rfl⟩)
  go_ret2
  exact ⟨rfl, rfl⟩

theorem Share_bad (t num den : Int) (w : World) (hm : ¬ May t num den) :
    Calls Try.prog 23 #[.int .i64 t, .int .i64 num, .int .i64 den] w fun e w' => e = .returned (.tuple #[.int .i64 0, .int .i64 1]) ∧ w = w' := by
  go_enter Try.func23, Try.ntmps23
  go_wp2_with (go_at_call 37; refine (share_bad _ _ _ _ _ hm).mono ?_; rintro e w' ⟨rfl, rfl⟩)
  go_ret2
  exact ⟨rfl, rfl⟩

theorem ShareUp_ok (t num den : Int) (w : World) (hm : May t num den) :
    Calls Try.prog 24 #[.int .i64 t, .int .i64 num, .int .i64 den] w fun e w' => e = .returned (.tuple #[.int .i64 (shareF t num den (den - 1)), .int .i64 0]) ∧ w = w' := by
  have hm' := hm
  obtain ⟨h0, h1, h2, h3, h4, h5⟩ := hm'
  go_enter Try.func24, Try.ntmps24
  go_wp2_with (go_at_call 37; refine (share_ok _ _ _ _ _ hm (by omega) (by omega)).mono ?_; rintro e w' ⟨rfl, rfl⟩)
  go_ret2
  exact ⟨rfl, rfl⟩

theorem ShareUp_bad (t num den : Int) (w : World) (hm : ¬ May t num den) :
    Calls Try.prog 24 #[.int .i64 t, .int .i64 num, .int .i64 den] w fun e w' => e = .returned (.tuple #[.int .i64 0, .int .i64 1]) ∧ w = w' := by
  go_enter Try.func24, Try.ntmps24
  go_wp2_with (go_at_call 37; refine (share_bad _ _ _ _ _ hm).mono ?_; rintro e w' ⟨rfl, rfl⟩)
  go_ret2
  exact ⟨rfl, rfl⟩

end Go.Proofs.Ytmenifpibbjicaa.base
