/-
  Proved: whatever three ints are handed to hanselaw01.TickParts, it returns true (a tick that is shared in two parts is no less than both rounded down, no more than both rounded up), and its arguments read as before. No conditions.
-/
import Derived.Test.YtmenifpibbjicaaRows
import Derived.Test.YtmenifpibbjicaaShare
import Derived.WalkKit
import Derived.ProofKit
import Derived.OpenShut
import Derived.ShutString
namespace Go.Proofs.Ytmenifpibbjicaa.tickParts
open Go.ChangeShapes Go.WideShapes Go.ChangeAt Go.RowKit
open Go.ChangeMaps (open_string shut_string)
open base
set_option linter.unusedVariables false      -- a walk need not use every 'w<i>' (that an integer argument fits its kind)

theorem own : ownKnob Try.prog.godebug = none := by kernel_rfl

theorem le_of (p q den : Int) (hd : 1 ≤ den) (h : p * den < q * den + den) : p ≤ q := by
  have h' : p * den < (q + 1) * den := by rw [Int.add_mul, Int.one_mul]; exact h
  have := Int.lt_of_mul_lt_mul_right h' (by omega : 0 ≤ den)
  omega

theorem shareF_eq (t num den more : Int) (h : ¬ t = 1099511627776) (h' : (t * num + more) / den ≤ 1099511627776) : shareF t num den more = (t * num + more) / den := by
  unfold shareF; rw [if_neg h, if_pos h']

theorem plain (t den X Y : Int) (h4 : 1 ≤ den) (px : 0 ≤ X) (py : 0 ≤ Y) (hs : X + Y = t * den) :
    X / den ≤ t ∧ Y / den ≤ t ∧ (X + (den - 1)) / den ≤ t ∧ (Y + (den - 1)) / den ≤ t ∧
    X / den + Y / den ≤ t ∧ t ≤ X / den + Y / den + 1 ∧ t ≤ (X + (den - 1)) / den + (Y + (den - 1)) / den ∧ X / den + (Y + (den - 1)) / den = t := by
  obtain ⟨a0, a1, a2, a3, a4, a5, a6⟩ := down_up X den px h4
  obtain ⟨b0, b1, b2, b3, b4, b5, b6⟩ := down_up Y den py h4
  generalize X / den = p at *
  generalize Y / den = q at *
  generalize (X + (den - 1)) / den = r at *
  generalize (Y + (den - 1)) / den = s at *
  have k1 : (p + q) * den = p * den + q * den := Int.add_mul _ _ _
  have k2 : (p + q + 1) * den = p * den + q * den + den := by rw [Int.add_mul, Int.add_mul, Int.one_mul]
  have k3 : (r + s) * den = r * den + s * den := Int.add_mul _ _ _
  have k4 : (p + s) * den = p * den + s * den := Int.add_mul _ _ _
  have m1 := le_of p t den h4 (by omega)
  have m2 := le_of q t den h4 (by omega)
  have m3 := le_of r t den h4 (by omega)
  have m4 := le_of s t den h4 (by omega)
  have m5 := le_of (p + q) t den h4 (by omega)
  have m6 := le_of t (p + q + 1) den h4 (by omega)
  have m7 := le_of t (r + s) den h4 (by omega)
  have m8 := le_of (p + s) t den h4 (by omega)
  have m9 := le_of t (p + s) den h4 (by omega)
  exact ⟨m1, m2, m3, m4, m5, m6, m7, by omega⟩

/-- The two parts of a whole. -/
theorem parts (t num den : Int) (h0 : 0 ≤ t) (h1 : t < 1099511627776) (h4 : 1 ≤ den) (h2 : 0 ≤ num) (h3 : num ≤ den) :
    shareF t num den 0 + shareF t (den - num) den 0 ≤ t ∧ t ≤ shareF t num den 0 + shareF t (den - num) den 0 + 1 ∧
    t ≤ shareF t num den (den - 1) + shareF t (den - num) den (den - 1) ∧ shareF t num den 0 + shareF t (den - num) den (den - 1) = t := by
  have px : 0 ≤ t * num := Int.mul_nonneg h0 h2
  have py : 0 ≤ t * (den - num) := Int.mul_nonneg h0 (by omega)
  have hs : t * num + t * (den - num) = t * den := by rw [← Int.mul_add, show num + (den - num) = den from by omega]
  have ht : ¬ t = 1099511627776 := by omega
  obtain ⟨c1, c2, c3, c4, c5, c6, c7, c8⟩ := plain t den _ _ h4 px py hs
  rw [shareF_eq t num den 0 ht (by rw [Int.add_zero]; omega), shareF_eq t (den - num) den 0 ht (by rw [Int.add_zero]; omega), shareF_eq t num den (den - 1) ht (by omega), shareF_eq t (den - num) den (den - 1) ht (by omega), Int.add_zero, Int.add_zero]
  exact ⟨c5, c6, c7, c8⟩

/-! ### STEP 1: THE WALK: the Go text returns true. 'Grown w w'': the world has at most new blocks (Derived/RowKit3.lean). Part the cases AHEAD of 'go_enter' where a test parts the walk; take each callee by a contract of your own. -/
theorem walk (a0 : Int) (a1 : Int) (a2 : Int) (w0 : (Lit.int .i64 a0).wf = true) (w1 : (Lit.int .i64 a1).wf = true) (w2 : (Lit.int .i64 a2).wf = true) (w : World) :
    Calls Try.prog 8 #[.int .i64 a0, .int .i64 a1, .int .i64 a2] w fun e w' => e = .returned (.bool true) ∧ Grown w w' := by
  by_cases g0 : a0 < 0
  · go_enter Try.func8, Try.ntmps8
    go_wp2_with (go_at_call 16; refine (wakes _).mono ?_; rintro e w' ⟨rfl, rfl⟩)
    go_ret
    exact ⟨rfl, Grown.refl _⟩
  by_cases g1 : 1099511627776 ≤ a0
  · go_enter Try.func8, Try.ntmps8
    go_wp2_with (go_at_call 16; refine (wakes _).mono ?_; rintro e w' ⟨rfl, rfl⟩)
    go_ret
    exact ⟨rfl, Grown.refl _⟩
  by_cases g2 : a2 < 1
  · go_enter Try.func8, Try.ntmps8
    go_wp2_with (go_at_call 16; refine (wakes _).mono ?_; rintro e w' ⟨rfl, rfl⟩)
    go_ret
    exact ⟨rfl, Grown.refl _⟩
  by_cases g3 : 1048576 < a2
  · go_enter Try.func8, Try.ntmps8
    go_wp2_with (go_at_call 16; refine (wakes _).mono ?_; rintro e w' ⟨rfl, rfl⟩)
    go_ret
    exact ⟨rfl, Grown.refl _⟩
  by_cases g4 : a1 < 0
  · go_enter Try.func8, Try.ntmps8
    go_wp2_with (go_at_call 16; refine (wakes _).mono ?_; rintro e w' ⟨rfl, rfl⟩)
    go_ret
    exact ⟨rfl, Grown.refl _⟩
  by_cases g5 : a2 < a1
  · go_enter Try.func8, Try.ntmps8
    go_wp2_with (go_at_call 16; refine (wakes _).mono ?_; rintro e w' ⟨rfl, rfl⟩)
    go_ret
    exact ⟨rfl, Grown.refl _⟩
  have hm1 : May a0 a1 a2 := ⟨by omega, by omega, by omega, by omega, by omega, by omega⟩
  have hm2 : May a0 (a2 - a1) a2 := ⟨by omega, by omega, by omega, by omega, by omega, by omega⟩
  obtain ⟨x0, x1, x2, x3⟩ := parts a0 a1 a2 (by omega) (by omega) (by omega) (by omega) (by omega)
  obtain ⟨s0, s1⟩ := shareF_bd a0 a1 a2 0 hm1 (by omega)
  obtain ⟨s2, s3⟩ := shareF_bd a0 (a2 - a1) a2 0 hm2 (by omega)
  obtain ⟨s4, s5⟩ := shareF_bd a0 a1 a2 (a2 - 1) hm1 (by omega)
  obtain ⟨s6, s7⟩ := shareF_bd a0 (a2 - a1) a2 (a2 - 1) hm2 (by omega)
  have x4 : (shareF a0 a1 a2 0 + shareF a0 (a2 - a1) a2 (a2 - 1) == a0) = true := by rw [x3]; simp
  clear x3
  go_enter Try.func8, Try.ntmps8
  go_wp2_with fail
  refine (Share_ok _ _ _ _ hm1).mono ?_; rintro e w' ⟨rfl, rfl⟩
  go_wp2_with fail
  refine (Share_ok _ _ _ _ hm2).mono ?_; rintro e w' ⟨rfl, rfl⟩
  go_wp2_with fail
  refine (ShareUp_ok _ _ _ _ hm1).mono ?_; rintro e w' ⟨rfl, rfl⟩
  go_wp2_with fail
  refine (ShareUp_ok _ _ _ _ hm2).mono ?_; rintro e w' ⟨rfl, rfl⟩
  go_wp2_with (go_at_call 16; refine (wakes _).mono ?_; rintro e w' ⟨rfl, rfl⟩)
  go_ret
  exact ⟨rfl, Grown.refl _⟩

/-! ### THE ROW's STEP: WRITTEN OUT: LEAVE IT -/
set_option maxRecDepth 100000 in
theorem lifted (os : Os) (started : os.Started) (H : Type) (enc : TypeId × Value → H) :
    ReturnsInHanded {} Try.checked os 8 .any (Rows.tickPartsSpec.pre6 enc Try.prog Try.f8 Rows.tickPartsRow.domain false) (Rows.tickPartsSpec.post enc Try.prog Try.f8 false true false false) := by
  refine returnsInHanded_of_change (C := Try.checked) own started (by kernel_rfl) Try.func8
    (ChangeSpec.witness6 (enc := enc) (C := Try.checked) false ⟨#[], #[.int .i64 0, .int .i64 0, .int .i64 0], []⟩ 8 (by kernel_rfl) (by kernel_rfl) (by kernel_rfl) (by kernel_rfl)) ?_
  intro W base args ds gs before hval0 hW hcnd _
  have hval : ∀ (j : Nat) t v, Try.f8.params[j]? = some t → args[j]? = some v → Value.okWide Try.prog W .any base t v := hval0
  have hW' := hW
  obtain ⟨p, q, hA0, hV, rfl, hfz, hnd⟩ := hW
  have hA : DataW.TrodAll enc Try.prog W 0 (fun _ => true) true Try.f8.params.toList args.toList ds p := hA0
  rw [Try.params8] at hA hval
  obtain ⟨v0, vs0, d0, ds0, p0, q0, hargs, rfl, rfl, h0, r0⟩ := trodAll_cons hA
  obtain ⟨v1, vs1, d1, ds1, p1, q1, rfl, rfl, rfl, h1, r1⟩ := trodAll_cons r0
  obtain ⟨v2, vs2, d2, ds2, p2, q2, rfl, rfl, rfl, h2, r2⟩ := trodAll_cons r1
  obtain ⟨rfl, rfl, rfl⟩ := trodAll_nil r2
  obtain rfl : args = #[v0, v1, v2] := by cases args; simp_all
  obtain ⟨rfl, rfl⟩ := trodVars_none hV
  obtain ⟨a0, rfl, rfl, rfl, w0⟩ := open_int Try.underlying3 (hval 0 3 v0 rfl rfl) h0
  obtain ⟨a1, rfl, rfl, rfl, w1⟩ := open_int Try.underlying3 (hval 1 3 v1 rfl rfl) h1
  obtain ⟨a2, rfl, rfl, rfl, w2⟩ := open_int Try.underlying3 (hval 2 3 v2 rfl rfl) h2
  clear hA0 hval0
  simp only [List.append_nil] at hW'
  refine (walk a0 a1 a2 w0 w1 w2 W).mono fun e W' ⟨he, hg⟩ => ?_
  subst he
  exact ⟨_, rfl, post_of_same (pa := []) (pv := []) hW' (fun _ _ _ => (trodAll_cons_mk (shut_bool Try.underlying4 _) trodAll_mk0)) (fun sp _ => (trodAll_cons_mk (shut_int Try.underlying3 w0) (trodAll_cons_mk (shut_int Try.underlying3 w1) (trodAll_cons_mk (shut_int Try.underlying3 w2) trodAll_mk0)))) (fun _ _ => rfl) rfl
    (hg.frame _) hg.2.1 (ok_one (by kernel_rfl) rfl (okWide_bool_mk Try.underlying4 _))⟩

theorem over : Rows.tickPartsRow.holds Try.pinned (OpenSpec.ofChange Rows.tickPartsSpec) :=
  OpenClaim.holds_of_wide 8 Try.f8 rfl rfl rfl rfl rfl rfl rfl ⟨rfl, rfl, rfl, rfl, rfl⟩ rfl rfl rfl rfl rfl (by kernel_rfl) Try.func8 (by kernel_rfl)
    (of_decide_eq_true (by kernel_rfl)) (by unfold Func.isWrapper; first | (rw [if_pos (by decide +kernel)]; kernel_rfl) | (rw [if_neg (by decide +kernel)]; exact ⟨rfl, rfl⟩))
    (fun os started H enc _ => lifted os started H enc)

/-- ████ THE STATEMENT ████ -/
theorem proved : Rows.TickPartsSaid :=
  over
#print axioms proved
end Go.Proofs.Ytmenifpibbjicaa.tickParts
