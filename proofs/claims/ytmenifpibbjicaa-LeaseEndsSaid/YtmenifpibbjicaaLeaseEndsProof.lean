/-
  Proved: whatever four ints are handed to hanselaw14.LeaseEnds, it returns true (a lease is trusted from its asking on, without a gap, for just as long as Early says, and lapses for good just when its time is over), and its arguments read as before. No conditions.
-/
import Derived.Test.YtmenifpibbjicaaRows
import Derived.Test.YtmenifpibbjicaaLeasePlain
import Derived.WalkKit
import Derived.ProofKit
import Derived.OpenShut
import Derived.ShutString
namespace Go.Proofs.Ytmenifpibbjicaa.leaseEnds
open Go.ChangeShapes Go.WideShapes Go.ChangeAt Go.RowKit
open Go.ChangeMaps (open_string shut_string)
open base
set_option linter.unusedVariables false      -- a walk need not use every 'w<i>' (that an integer argument fits its kind)

theorem own : ownKnob Try.prog.godebug = none := by kernel_rfl

theorem trusts_is (sent d dur drift : Int) (h : 0 ≤ d) : trustsB sent (sent + d) dur drift = decide (d < earlyF dur drift) := by
  unfold trustsB
  rw [show sent + d - sent = d from by omega]
  by_cases k : d < earlyF dur drift <;> simp [k, h]
theorem trusts_ahead (sent dur drift : Int) : trustsB (sent + 1) sent dur drift = false := by
  unfold trustsB
  simp only [decide_eq_false_iff_not]
  omega
theorem lapsed_is (got d dur : Int) : lapsedB got (got + d) dur = decide (dur ≤ d) := by
  unfold lapsedB
  rw [show got + d - got = d from by omega]

/-! ### STEP 1: THE WALK: the Go text returns true. 'Grown w w'': the world has at most new blocks (Derived/RowKit3.lean). Part the cases AHEAD of 'go_enter' where a test parts the walk; take each callee by a contract of your own. -/
theorem walk (a0 : Int) (a1 : Int) (a2 : Int) (a3 : Int) (w0 : (Lit.int .i64 a0).wf = true) (w1 : (Lit.int .i64 a1).wf = true) (w2 : (Lit.int .i64 a2).wf = true) (w3 : (Lit.int .i64 a3).wf = true) (w : World) :
    Calls Try.prog 14 #[.int .i64 a0, .int .i64 a1, .int .i64 a2, .int .i64 a3] w fun e w' => e = .returned (.bool true) ∧ Grown w w' := by
  by_cases g1 : a0 < 0
  · go_enter Try.func14, Try.ntmps14
    go_wp2_with (go_at_call 27; refine (lwakes _).mono ?_; rintro e w' ⟨rfl, rfl⟩)
    go_ret
    exact ⟨rfl, Grown.refl _⟩
  by_cases g2 : 274877906944 < a0
  · go_enter Try.func14, Try.ntmps14
    go_wp2_with (go_at_call 27; refine (lwakes _).mono ?_; rintro e w' ⟨rfl, rfl⟩)
    go_ret
    exact ⟨rfl, Grown.refl _⟩
  by_cases g3 : a1 < 0
  · go_enter Try.func14, Try.ntmps14
    go_wp2_with (go_at_call 27; refine (lwakes _).mono ?_; rintro e w' ⟨rfl, rfl⟩)
    go_ret
    exact ⟨rfl, Grown.refl _⟩
  by_cases g4 : 274877906944 < a1
  · go_enter Try.func14, Try.ntmps14
    go_wp2_with (go_at_call 27; refine (lwakes _).mono ?_; rintro e w' ⟨rfl, rfl⟩)
    go_ret
    exact ⟨rfl, Grown.refl _⟩
  by_cases g5 : a2 < 0
  · go_enter Try.func14, Try.ntmps14
    go_wp2_with (go_at_call 27; refine (lwakes _).mono ?_; rintro e w' ⟨rfl, rfl⟩)
    go_ret
    exact ⟨rfl, Grown.refl _⟩
  by_cases g6 : 262144 < a2
  · go_enter Try.func14, Try.ntmps14
    go_wp2_with (go_at_call 27; refine (lwakes _).mono ?_; rintro e w' ⟨rfl, rfl⟩)
    go_ret
    exact ⟨rfl, Grown.refl _⟩
  by_cases g7 : a3 < 0
  · go_enter Try.func14, Try.ntmps14
    go_wp2_with (go_at_call 27; refine (lwakes _).mono ?_; rintro e w' ⟨rfl, rfl⟩)
    go_ret
    exact ⟨rfl, Grown.refl _⟩
  by_cases g8 : 274877906944 < a3
  · go_enter Try.func14, Try.ntmps14
    go_wp2_with (go_at_call 27; refine (lwakes _).mono ?_; rintro e w' ⟨rfl, rfl⟩)
    go_ret
    exact ⟨rfl, Grown.refl _⟩
  have t1 := trusts_is a0 a3 a1 a2 (by omega)
  have t2 := trusts_ahead a0 a1 a2
  have t3 := lapsed_is a0 a3 a1
  by_cases k1 : a3 < earlyF a1 a2
  · have t1' : trustsB a0 (a0 + a3) a1 a2 = true := by rw [t1]; simpa using k1
    clear t1
    by_cases k2 : a1 ≤ a3
    · have t3' : lapsedB a0 (a0 + a3) a1 = true := by rw [t3]; simpa using k2
      clear t3
      go_enter Try.func14, Try.ntmps14
      go_wp2_with (first | (go_at_call 29; refine (early_ok _ _ _ (by omega) (by omega) (by omega) (by omega)).mono ?_; rintro e w' ⟨rfl, rfl⟩) | (go_at_call 35; refine (trusts_ok _ _ _ _ _ (by omega) (by omega) (by omega) (by omega) (by omega) (by omega) (by omega) (by omega)).mono ?_; rintro e w' ⟨rfl, rfl⟩) | (go_at_call 36; refine (lapsed_ok _ _ _ _ (by omega) (by omega) (by omega) (by omega) (by omega) (by omega)).mono ?_; rintro e w' ⟨rfl, rfl⟩) | (go_at_call 27; refine (lwakes _).mono ?_; rintro e w' ⟨rfl, rfl⟩))
      go_ret
      exact ⟨rfl, Grown.refl _⟩
    · have t3' : lapsedB a0 (a0 + a3) a1 = false := by rw [t3]; simpa using k2
      have k2' : decide (a1 ≤ a3) = false := by simpa using k2
      clear t3 k2
      go_enter Try.func14, Try.ntmps14
      go_wp2_with (first | (go_at_call 29; refine (early_ok _ _ _ (by omega) (by omega) (by omega) (by omega)).mono ?_; rintro e w' ⟨rfl, rfl⟩) | (go_at_call 35; refine (trusts_ok _ _ _ _ _ (by omega) (by omega) (by omega) (by omega) (by omega) (by omega) (by omega) (by omega)).mono ?_; rintro e w' ⟨rfl, rfl⟩) | (go_at_call 36; refine (lapsed_ok _ _ _ _ (by omega) (by omega) (by omega) (by omega) (by omega) (by omega)).mono ?_; rintro e w' ⟨rfl, rfl⟩) | (go_at_call 27; refine (lwakes _).mono ?_; rintro e w' ⟨rfl, rfl⟩))
      go_ret
      exact ⟨rfl, Grown.refl _⟩
  · have t1' : trustsB a0 (a0 + a3) a1 a2 = false := by rw [t1]; simpa using k1
    have k1' : decide (a3 < earlyF a1 a2) = false := by simpa using k1
    clear t1 k1
    by_cases k2 : a1 ≤ a3
    · have t3' : lapsedB a0 (a0 + a3) a1 = true := by rw [t3]; simpa using k2
      clear t3
      go_enter Try.func14, Try.ntmps14
      go_wp2_with (first | (go_at_call 29; refine (early_ok _ _ _ (by omega) (by omega) (by omega) (by omega)).mono ?_; rintro e w' ⟨rfl, rfl⟩) | (go_at_call 35; refine (trusts_ok _ _ _ _ _ (by omega) (by omega) (by omega) (by omega) (by omega) (by omega) (by omega) (by omega)).mono ?_; rintro e w' ⟨rfl, rfl⟩) | (go_at_call 36; refine (lapsed_ok _ _ _ _ (by omega) (by omega) (by omega) (by omega) (by omega) (by omega)).mono ?_; rintro e w' ⟨rfl, rfl⟩) | (go_at_call 27; refine (lwakes _).mono ?_; rintro e w' ⟨rfl, rfl⟩))
      go_ret
      exact ⟨rfl, Grown.refl _⟩
    · have t3' : lapsedB a0 (a0 + a3) a1 = false := by rw [t3]; simpa using k2
      have k2' : decide (a1 ≤ a3) = false := by simpa using k2
      clear t3 k2
      go_enter Try.func14, Try.ntmps14
      go_wp2_with (first | (go_at_call 29; refine (early_ok _ _ _ (by omega) (by omega) (by omega) (by omega)).mono ?_; rintro e w' ⟨rfl, rfl⟩) | (go_at_call 35; refine (trusts_ok _ _ _ _ _ (by omega) (by omega) (by omega) (by omega) (by omega) (by omega) (by omega) (by omega)).mono ?_; rintro e w' ⟨rfl, rfl⟩) | (go_at_call 36; refine (lapsed_ok _ _ _ _ (by omega) (by omega) (by omega) (by omega) (by omega) (by omega)).mono ?_; rintro e w' ⟨rfl, rfl⟩) | (go_at_call 27; refine (lwakes _).mono ?_; rintro e w' ⟨rfl, rfl⟩))
      go_ret
      exact ⟨rfl, Grown.refl _⟩

/-! ### THE ROW's STEP: WRITTEN OUT: LEAVE IT -/
set_option maxRecDepth 100000 in
theorem lifted (os : Os) (started : os.Started) (H : Type) (enc : TypeId × Value → H) :
    ReturnsInHanded {} Try.checked os 14 .any (Rows.leaseEndsSpec.pre6 enc Try.prog Try.f14 Rows.leaseEndsRow.domain false) (Rows.leaseEndsSpec.post enc Try.prog Try.f14 false true false false) := by
  refine returnsInHanded_of_change (C := Try.checked) own started (by kernel_rfl) Try.func14
    (ChangeSpec.witness6 (enc := enc) (C := Try.checked) false ⟨#[], #[.int .i64 0, .int .i64 0, .int .i64 0, .int .i64 0], []⟩ 8 (by kernel_rfl) (by kernel_rfl) (by kernel_rfl) (by kernel_rfl)) ?_
  intro W base args ds gs before hval0 hW hcnd _
  have hval : ∀ (j : Nat) t v, Try.f14.params[j]? = some t → args[j]? = some v → Value.okWide Try.prog W .any base t v := hval0
  have hW' := hW
  obtain ⟨p, q, hA0, hV, rfl, hfz, hnd⟩ := hW
  have hA : DataW.TrodAll enc Try.prog W 0 (fun _ => true) true Try.f14.params.toList args.toList ds p := hA0
  rw [Try.params14] at hA hval
  obtain ⟨v0, vs0, d0, ds0, p0, q0, hargs, rfl, rfl, h0, r0⟩ := trodAll_cons hA
  obtain ⟨v1, vs1, d1, ds1, p1, q1, rfl, rfl, rfl, h1, r1⟩ := trodAll_cons r0
  obtain ⟨v2, vs2, d2, ds2, p2, q2, rfl, rfl, rfl, h2, r2⟩ := trodAll_cons r1
  obtain ⟨v3, vs3, d3, ds3, p3, q3, rfl, rfl, rfl, h3, r3⟩ := trodAll_cons r2
  obtain ⟨rfl, rfl, rfl⟩ := trodAll_nil r3
  obtain rfl : args = #[v0, v1, v2, v3] := by cases args; simp_all
  obtain ⟨rfl, rfl⟩ := trodVars_none hV
  obtain ⟨a0, rfl, rfl, rfl, w0⟩ := open_int Try.underlying3 (hval 0 3 v0 rfl rfl) h0
  obtain ⟨a1, rfl, rfl, rfl, w1⟩ := open_int Try.underlying3 (hval 1 3 v1 rfl rfl) h1
  obtain ⟨a2, rfl, rfl, rfl, w2⟩ := open_int Try.underlying3 (hval 2 3 v2 rfl rfl) h2
  obtain ⟨a3, rfl, rfl, rfl, w3⟩ := open_int Try.underlying3 (hval 3 3 v3 rfl rfl) h3
  clear hA0 hval0
  simp only [List.append_nil] at hW'
  refine (walk a0 a1 a2 a3 w0 w1 w2 w3 W).mono fun e W' ⟨he, hg⟩ => ?_
  subst he
  exact ⟨_, rfl, post_of_same (pa := []) (pv := []) hW' (fun _ _ _ => (trodAll_cons_mk (shut_bool Try.underlying4 _) trodAll_mk0)) (fun sp _ => (trodAll_cons_mk (shut_int Try.underlying3 w0) (trodAll_cons_mk (shut_int Try.underlying3 w1) (trodAll_cons_mk (shut_int Try.underlying3 w2) (trodAll_cons_mk (shut_int Try.underlying3 w3) trodAll_mk0))))) (fun _ _ => rfl) rfl
    (hg.frame _) hg.2.1 (ok_one (by kernel_rfl) rfl (okWide_bool_mk Try.underlying4 _))⟩

theorem over : Rows.leaseEndsRow.holds Try.pinned (OpenSpec.ofChange Rows.leaseEndsSpec) :=
  OpenClaim.holds_of_wide 14 Try.f14 rfl rfl rfl rfl rfl rfl rfl ⟨rfl, rfl, rfl, rfl, rfl⟩ rfl rfl rfl rfl rfl (by kernel_rfl) Try.func14 (by kernel_rfl)
    (of_decide_eq_true (by kernel_rfl)) (by unfold Func.isWrapper; first | (rw [if_pos (by decide +kernel)]; kernel_rfl) | (rw [if_neg (by decide +kernel)]; exact ⟨rfl, rfl⟩))
    (fun os started H enc _ => lifted os started H enc)

/-- ████ THE STATEMENT ████ -/
theorem proved : Rows.LeaseEndsSaid :=
  over
#print axioms proved
end Go.Proofs.Ytmenifpibbjicaa.leaseEnds
