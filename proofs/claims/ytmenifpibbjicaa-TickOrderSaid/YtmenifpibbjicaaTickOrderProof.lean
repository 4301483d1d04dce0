/-
  Proved: whatever five ints are handed to hanselaw01.TickOrder, it returns true (who is earlier stays so, whatever is added, taken away, or shared), and its arguments read as before. No conditions.
-/
import Derived.Test.YtmenifpibbjicaaRows
import Derived.Test.YtmenifpibbjicaaShare
import Derived.Lib.Hide
import Derived.WalkKit
import Derived.ProofKit
import Derived.OpenShut
import Derived.ShutString
namespace Go.Proofs.Ytmenifpibbjicaa.tickOrder
open Go.ChangeShapes Go.WideShapes Go.ChangeAt Go.RowKit
open Go.ChangeMaps (open_string shut_string)
open base
set_option linter.unusedVariables false      -- a walk need not use every 'w<i>' (that an integer argument fits its kind)

theorem own : ownKnob Try.prog.godebug = none := by kernel_rfl

theorem addF_mono (a b d : Int) (h : a ≤ b) : addF a d ≤ addF b d := by
  unfold addF; split <;> split <;> omega

theorem subF_mono (a b d : Int) (h : a ≤ b) (h0 : 0 ≤ a) (h1 : b ≤ 1099511627776) (h2 : 0 ≤ d) : subF a d ≤ subF b d := by
  unfold subF
  by_cases p : a = 1099511627776
  · rw [if_pos p, if_pos (by omega)]; omega
  · rw [if_neg p]
    by_cases q : b = 1099511627776
    · rw [if_pos q]; split <;> omega
    · rw [if_neg q]; split <;> split <;> omega

theorem shareF_mono (a b num den : Int) (h : a ≤ b) (h0 : 0 ≤ a) (h1 : b ≤ 1099511627776) (h2 : 0 ≤ num) (h4 : 1 ≤ den) : shareF a num den 0 ≤ shareF b num den 0 := by
  have m : a * num ≤ b * num := Int.mul_le_mul_of_nonneg_right h h2
  have q : (a * num + 0) / den ≤ (b * num + 0) / den := Int.ediv_le_ediv (by omega) (by omega)
  unfold shareF
  by_cases p : a = 1099511627776
  · rw [if_pos p, if_pos (by omega)]; omega
  · rw [if_neg p]
    by_cases q : b = 1099511627776
    · rw [if_pos q]; split <;> omega
    · rw [if_neg q]; split <;> split <;> omega

/-! ### STEP 1: THE WALK: the Go text returns true. 'Grown w w'': the world has at most new blocks (Derived/RowKit3.lean). Part the cases AHEAD of 'go_enter' where a test parts the walk; take each callee by a contract of your own. -/
theorem walk (a0 : Int) (a1 : Int) (a2 : Int) (a3 : Int) (a4 : Int) (w0 : (Lit.int .i64 a0).wf = true) (w1 : (Lit.int .i64 a1).wf = true) (w2 : (Lit.int .i64 a2).wf = true) (w3 : (Lit.int .i64 a3).wf = true) (w4 : (Lit.int .i64 a4).wf = true) (w : World) :
    Calls Try.prog 9 #[.int .i64 a0, .int .i64 a1, .int .i64 a2, .int .i64 a3, .int .i64 a4] w fun e w' => e = .returned (.bool true) ∧ Grown w w' := by
  by_cases g0 : 0 ≤ a0 ∧ a0 ≤ 1099511627776
  · obtain ⟨a00, a01⟩ := g0
    by_cases g1 : 0 ≤ a1 ∧ a1 ≤ 1099511627776
    · obtain ⟨a10, a11⟩ := g1
      by_cases g : a1 < a0
      · go_enter Try.func9, Try.ntmps9
        go_wp2_with (first | (go_at_call 15; refine (right_yes _ _ (by omega) (by omega)).mono ?_; rintro e w' ⟨rfl, rfl⟩) | (go_at_call 16; refine (wakes _).mono ?_; rintro e w' ⟨rfl, rfl⟩))
        go_ret
        exact ⟨rfl, Grown.refl _⟩
      · have x1 := addF_mono a0 a1 a2 (by omega)
        by_cases gd : 0 ≤ a2 ∧ a2 ≤ 1099511627776
        · obtain ⟨a20, a21⟩ := gd
          have x2 := subF_mono a0 a1 a2 (by omega) a00 a11 a20
          by_cases gq : 0 ≤ a3 ∧ a3 ≤ 1048576 ∧ 1 ≤ a4 ∧ a4 ≤ 1048576
          · obtain ⟨q0, q1, q2, q3⟩ := gq
            have x3 := shareF_mono a0 a1 a3 a4 (by omega) a00 a11 q0 q2
            have m1 : May a0 a3 a4 := ⟨a00, a01, q0, q1, q2, q3⟩
            have m2 : May a1 a3 a4 := ⟨a10, a11, q0, q1, q2, q3⟩
            go_enter Try.func9, Try.ntmps9
            go_wp2_with (first | (go_at_call 15; refine (right_yes _ _ (by omega) (by omega)).mono ?_; rintro e w' ⟨rfl, rfl⟩) | (go_at_call 17; refine (add_ok _ _ _ (by omega) (by omega) (by omega) (by omega)).mono ?_; rintro e w' ⟨rfl, rfl⟩) | (go_at_call 18; refine (sub_ok _ _ _ (by omega) (by omega) (by omega) (by omega)).mono ?_; rintro e w' ⟨rfl, rfl⟩) | (go_at_call 23; refine (Share_ok _ _ _ _ ⟨by omega, by omega, by omega, by omega, by omega, by omega⟩).mono ?_; rintro e w' ⟨rfl, rfl⟩) | (go_at_call 16; refine (wakes _).mono ?_; rintro e w' ⟨rfl, rfl⟩))
            go_ret
            exact ⟨rfl, Grown.refl _⟩
          · have m1 : ∀ t, ¬ May t a3 a4 := fun t h => gq ⟨h.2.2.1, h.2.2.2.1, h.2.2.2.2.1, h.2.2.2.2.2⟩
            have M1 := Lib.hid m1
            clear m1 gq
            go_enter Try.func9, Try.ntmps9
            go_wp2_with (first | (go_at_call 15; refine (right_yes _ _ (by omega) (by omega)).mono ?_; rintro e w' ⟨rfl, rfl⟩) | (go_at_call 17; refine (add_ok _ _ _ (by omega) (by omega) (by omega) (by omega)).mono ?_; rintro e w' ⟨rfl, rfl⟩) | (go_at_call 18; refine (sub_ok _ _ _ (by omega) (by omega) (by omega) (by omega)).mono ?_; rintro e w' ⟨rfl, rfl⟩) | (go_at_call 23; refine (Share_bad _ _ _ _ (M1.out _)).mono ?_; rintro e w' ⟨rfl, rfl⟩) | (go_at_call 16; refine (wakes _).mono ?_; rintro e w' ⟨rfl, rfl⟩))
            go_ret
            exact ⟨rfl, Grown.refl _⟩
        · have gd' : a2 < 0 ∨ 1099511627776 < a2 := by omega
          by_cases gq : 0 ≤ a3 ∧ a3 ≤ 1048576 ∧ 1 ≤ a4 ∧ a4 ≤ 1048576
          · obtain ⟨q0, q1, q2, q3⟩ := gq
            have x3 := shareF_mono a0 a1 a3 a4 (by omega) a00 a11 q0 q2
            clear gd
            go_enter Try.func9, Try.ntmps9
            go_wp2_with (first | (go_at_call 15; refine (right_yes _ _ (by omega) (by omega)).mono ?_; rintro e w' ⟨rfl, rfl⟩) | (go_at_call 17; refine (add_bad _ _ _ (by omega)).mono ?_; rintro e w' ⟨rfl, rfl⟩) | (go_at_call 18; refine (sub_bad _ _ _ (by omega)).mono ?_; rintro e w' ⟨rfl, rfl⟩) | (go_at_call 23; refine (Share_ok _ _ _ _ ⟨by omega, by omega, by omega, by omega, by omega, by omega⟩).mono ?_; rintro e w' ⟨rfl, rfl⟩) | (go_at_call 16; refine (wakes _).mono ?_; rintro e w' ⟨rfl, rfl⟩))
            go_ret
            exact ⟨rfl, Grown.refl _⟩
          · have m1 : ∀ t, ¬ May t a3 a4 := fun t h => gq ⟨h.2.2.1, h.2.2.2.1, h.2.2.2.2.1, h.2.2.2.2.2⟩
            have M1 := Lib.hid m1
            clear m1 gq gd
            go_enter Try.func9, Try.ntmps9
            go_wp2_with (first | (go_at_call 15; refine (right_yes _ _ (by omega) (by omega)).mono ?_; rintro e w' ⟨rfl, rfl⟩) | (go_at_call 17; refine (add_bad _ _ _ (by omega)).mono ?_; rintro e w' ⟨rfl, rfl⟩) | (go_at_call 18; refine (sub_bad _ _ _ (by omega)).mono ?_; rintro e w' ⟨rfl, rfl⟩) | (go_at_call 23; refine (Share_bad _ _ _ _ (M1.out _)).mono ?_; rintro e w' ⟨rfl, rfl⟩) | (go_at_call 16; refine (wakes _).mono ?_; rintro e w' ⟨rfl, rfl⟩))
            go_ret
            exact ⟨rfl, Grown.refl _⟩
    · go_enter Try.func9, Try.ntmps9
      go_wp2_with fail
      refine (right_yes _ _ (by omega) (by omega)).mono ?_; rintro e w' ⟨rfl, rfl⟩
      go_wp2_with fail
      refine (right_no _ _ (by omega)).mono ?_; rintro e w' ⟨rfl, rfl⟩
      go_wp2_with fail
      refine (wakes _).mono ?_; rintro e w' ⟨rfl, rfl⟩
      go_wp2_with fail
      go_ret
      exact ⟨rfl, Grown.refl _⟩
  · go_enter Try.func9, Try.ntmps9
    go_wp2_with fail
    refine (right_no _ _ (by omega)).mono ?_; rintro e w' ⟨rfl, rfl⟩
    go_wp2_with fail
    refine (wakes _).mono ?_; rintro e w' ⟨rfl, rfl⟩
    go_wp2_with fail
    go_ret
    exact ⟨rfl, Grown.refl _⟩

/-! ### THE ROW's STEP: WRITTEN OUT: LEAVE IT -/
set_option maxRecDepth 100000 in
theorem lifted (os : Os) (started : os.Started) (H : Type) (enc : TypeId × Value → H) :
    ReturnsInHanded {} Try.checked os 9 .any (Rows.tickOrderSpec.pre6 enc Try.prog Try.f9 Rows.tickOrderRow.domain false) (Rows.tickOrderSpec.post enc Try.prog Try.f9 false true false false) := by
  refine returnsInHanded_of_change (C := Try.checked) own started (by kernel_rfl) Try.func9
    (ChangeSpec.witness6 (enc := enc) (C := Try.checked) false ⟨#[], #[.int .i64 0, .int .i64 0, .int .i64 0, .int .i64 0, .int .i64 0], []⟩ 8 (by kernel_rfl) (by kernel_rfl) (by kernel_rfl) (by kernel_rfl)) ?_
  intro W base args ds gs before hval0 hW hcnd _
  have hval : ∀ (j : Nat) t v, Try.f9.params[j]? = some t → args[j]? = some v → Value.okWide Try.prog W .any base t v := hval0
  have hW' := hW
  obtain ⟨p, q, hA0, hV, rfl, hfz, hnd⟩ := hW
  have hA : DataW.TrodAll enc Try.prog W 0 (fun _ => true) true Try.f9.params.toList args.toList ds p := hA0
  rw [Try.params9] at hA hval
  obtain ⟨v0, vs0, d0, ds0, p0, q0, hargs, rfl, rfl, h0, r0⟩ := trodAll_cons hA
  obtain ⟨v1, vs1, d1, ds1, p1, q1, rfl, rfl, rfl, h1, r1⟩ := trodAll_cons r0
  obtain ⟨v2, vs2, d2, ds2, p2, q2, rfl, rfl, rfl, h2, r2⟩ := trodAll_cons r1
  obtain ⟨v3, vs3, d3, ds3, p3, q3, rfl, rfl, rfl, h3, r3⟩ := trodAll_cons r2
  obtain ⟨v4, vs4, d4, ds4, p4, q4, rfl, rfl, rfl, h4, r4⟩ := trodAll_cons r3
  obtain ⟨rfl, rfl, rfl⟩ := trodAll_nil r4
  obtain rfl : args = #[v0, v1, v2, v3, v4] := by cases args; simp_all
  obtain ⟨rfl, rfl⟩ := trodVars_none hV
  obtain ⟨a0, rfl, rfl, rfl, w0⟩ := open_int Try.underlying3 (hval 0 3 v0 rfl rfl) h0
  obtain ⟨a1, rfl, rfl, rfl, w1⟩ := open_int Try.underlying3 (hval 1 3 v1 rfl rfl) h1
  obtain ⟨a2, rfl, rfl, rfl, w2⟩ := open_int Try.underlying3 (hval 2 3 v2 rfl rfl) h2
  obtain ⟨a3, rfl, rfl, rfl, w3⟩ := open_int Try.underlying3 (hval 3 3 v3 rfl rfl) h3
  obtain ⟨a4, rfl, rfl, rfl, w4⟩ := open_int Try.underlying3 (hval 4 3 v4 rfl rfl) h4
  clear hA0 hval0
  simp only [List.append_nil] at hW'
  refine (walk a0 a1 a2 a3 a4 w0 w1 w2 w3 w4 W).mono fun e W' ⟨he, hg⟩ => ?_
  subst he
  exact ⟨_, rfl, post_of_same (pa := []) (pv := []) hW' (fun _ _ _ => (trodAll_cons_mk (shut_bool Try.underlying4 _) trodAll_mk0)) (fun sp _ => (trodAll_cons_mk (shut_int Try.underlying3 w0) (trodAll_cons_mk (shut_int Try.underlying3 w1) (trodAll_cons_mk (shut_int Try.underlying3 w2) (trodAll_cons_mk (shut_int Try.underlying3 w3) (trodAll_cons_mk (shut_int Try.underlying3 w4) trodAll_mk0)))))) (fun _ _ => rfl) rfl
    (hg.frame _) hg.2.1 (ok_one (by kernel_rfl) rfl (okWide_bool_mk Try.underlying4 _))⟩

theorem over : Rows.tickOrderRow.holds Try.pinned (OpenSpec.ofChange Rows.tickOrderSpec) :=
  OpenClaim.holds_of_wide 9 Try.f9 rfl rfl rfl rfl rfl rfl rfl ⟨rfl, rfl, rfl, rfl, rfl⟩ rfl rfl rfl rfl rfl (by kernel_rfl) Try.func9 (by kernel_rfl)
    (of_decide_eq_true (by kernel_rfl)) (by unfold Func.isWrapper; first | (rw [if_pos (by decide +kernel)]; kernel_rfl) | (rw [if_neg (by decide +kernel)]; exact ⟨rfl, rfl⟩))
    (fun os started H enc _ => lifted os started H enc)

/-- ████ THE STATEMENT ████ -/
theorem proved : Rows.TickOrderSaid :=
  over
#print axioms proved
end Go.Proofs.Ytmenifpibbjicaa.tickOrder
