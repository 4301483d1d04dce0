/-
  Proved: whatever two clocks and four ints are handed to hanselaw14.LeaseSafe, it returns true (as long as a holder trusts a lease that it asked for ahead of the grant, it has not lapsed at the granter), and its arguments read as before. No conditions.
-/
import Derived.Test.YtmenifpibbjicaaShown
import Derived.Deep.QuietTactic
import Derived.ProofKit
import Derived.OpenShut
import Derived.ChangeOld
import Derived.Below
import Derived.Lib.SmallJoins
namespace Go.Proofs.Ytmenifpibbjicaa.leaseSafe
open Go.ChangeShapes Go.WideShapes Go.ChangeAt Go.RowKit Go.Joins
open base

theorem own : ownKnob Try.prog.godebug = none := by kernel_rfl
theorem laidOut : laidOutB Try.prog = true := by kernel_rfl
theorem cells38 : Try.prog.cellsOf 38 = 4 := by kernel_rfl

/-- A field that is a slice of ints, as it came in. -/
theorem field_ints {H : Type} {enc : TypeId × Value → H} {W : World} {m : Nat} {v : Value} {y : DataW H × List MemPlace} (h : DataW.trod enc Try.prog W 0 (fun _ => true) true m 29 [v] = some y) :
    ∃ (a : Option Addr) (n c : Nat) (zs : List Int), v = .slice a n c ∧ SlOf W a n zs := by
  rcases open_ints Try.underlying29 Try.underlying3 (by kernel_rfl) h with ⟨hcs, _⟩ | ⟨x, l, c, zs, hcs, _, hl, hm, hz, _, hcell, hwz⟩
  · refine ⟨none, 0, 0, [], ?_, rfl, .inl rfl⟩
    simpa using hcs
  · have hz' : zs.length = c := by simpa using hz
    refine ⟨some x, l, c, zs.take l, by simpa using hcs, by rw [List.length_take]; omega, ?_⟩
    by_cases h0 : l = 0
    · exact .inl h0
    · obtain ⟨b, off, spot⟩ := x
      have hc := hcell 0 (by omega)
      have hspot : spot = none := by simpa [Addr.add] using World.cell?_spot hc
      subst hspot
      refine .inr ⟨b, off, rfl, fun i hi => ?_⟩
      have := hcell i (by omega)
      rw [Addr.add_lit] at this
      rw [this]
      simp [List.getD, hi]

theorem shown_any (H G : Int) (a0 a1 : Option Addr) (n n' c0 c1 : Nat) (drift : Int) (zh zg : List Int) (w : World) (s0 : SlOf w a0 n zh) (s1 : SlOf w a1 n' zg) :
    Calls Try.prog 25 #[.agg #[.int .i64 H, .int .i64 G, .slice a0 n c0, .slice a1 n' c1], .int .i64 drift] w (ShownPost drift w) := by
  by_cases h : n = 0 ∨ 200 < n ∨ n ≠ n' ∨ drift < 0 ∨ 262144 < drift ∨ H < 0 ∨ G < 0 ∨ 1073741824 < H ∨ 1073741824 < G
  · exact shown_early H G a0 a1 n n' c0 c1 drift w h
  · obtain rfl : n = n' := by omega
    exact shown_good H G a0 a1 n c0 c1 drift zh zg w s0 s1 (by omega) (by omega) (by omega) (by omega) (by omega) (by omega) (by omega) (by omega)

theorem below_box {w w' : World} {o : Obj} (h : Below (w.alloc o).heap.size (w.alloc o) w') : Below w.heap.size w w' :=
  ((Below.refl _ _).alloc (Nat.le_refl _) o).trans (h.mono (by simp))

theorem Calls.flip {P : Program} {f : FuncId} {args : Array Value} {w : World} {x : Ending} (h : Calls P f args w fun e w' => e = x ∧ w = w') : Calls P f args w fun e w' => e = x ∧ w' = w :=
  h.mono fun _ _ ⟨a, b⟩ => ⟨a, b.symm⟩

/-- A callee that leaves the world alone, met in a region that has drawn before (the second one of a round). -/
theorem quiet_second {P : Program} {f : FuncId} {args : Array Value} {w : World} {a n : Nat} {v : Value} (h : Calls P f args (w.drewN (a + n)) fun e w' => e = .returned v ∧ w' = w.drewN (a + n)) :
    Calls P f args (w.drewN (a + n)) fun e w'' => e = .returned v ∧ ∃ m, w'' = w.drewN (a + m) := by
  refine h.mono ?_
  rintro e w' ⟨he, hw⟩
  exact ⟨he, n, hw⟩

/-- Who trusts does not meet a lease that is over. -/
theorem not_both (dur drift ha hk gg gk : Int) (h0 : 0 ≤ dur) (h2 : 0 ≤ drift) (h3 : drift ≤ 262144) (hg : Int) (h4 : ha ≤ hg) (h5 : hg ≤ hk)
    (hkept : (gk - gg - 1) * (1048576 - drift) < (hk - hg + 1) * (1048576 + drift)) (ht : trustsB ha hk dur drift = true) : lapsedB gg gk dur = false := by
  unfold trustsB at ht
  simp only [decide_eq_true_eq] at ht
  have := safe dur drift (hk - hg) (gk - gg) h0 h2 h3 (by omega) (by omega) hkept
  unfold lapsedB
  simp only [decide_eq_false_iff_not]
  omega

set_option maxRecDepth 100000 in
set_option maxHeartbeats 1000000 in
/-- THE WALK: the Go text returns true, and writes nothing that was there. -/
theorem walk (H G : Int) (a0 b0 : Option Addr) (n0 c0 n1 c1 : Nat) (zh zg : List Int) (a1 : Int) (a2 : Int) (a3 : Int) (a4 : Int) (w : World) (s0 : SlOf w a0 n0 zh) (s1 : SlOf w b0 n1 zg) :
    Calls Try.prog 13 #[.agg #[.int .i64 H, .int .i64 G, .slice a0 n0 c0, .slice b0 n1 c1], .int .i64 a1, .int .i64 a2, .int .i64 a3, .int .i64 a4] w fun e w' => e = .returned (.bool true) ∧ Below w.heap.size w w' := by
  have S0 := Lib.hid s0
  have S1 := Lib.hid s1
  clear s0 s1
  go_enter Try.func13, Try.ntmps13
  go_wp2_with fail
  refine (shown_any H G a0 b0 n0 n1 c0 c1 a1 zh zg _ (S0.out.below ((Below.refl _ _).alloc (Nat.le_refl _) _)) (S1.out.below ((Below.refl _ _).alloc (Nat.le_refl _) _))).mono ?_
  rintro e w1 ⟨hb, h⟩
  have HB := Lib.hid (below_box hb)
  clear hb
  rcases h with rfl | ⟨m, p, q, cp, cq, hs, gs, rfl, m0, m1, sh, sg, rh, rg, d0, d1⟩
  · go_wp2_with (go_at_call 27; refine (lwakes _).mono ?_; rintro e w' ⟨rfl, rfl⟩)
    go_ret
    exact ⟨rfl, HB.out⟩
  · have SH := Lib.hid sh
    have SG := Lib.hid sg
    have RH := Lib.hid rh
    have RG := Lib.hid rg
    clear sh sg rh rg
    go_wp2_with fail
    refine (keeps_any q p m cq cp gs hs a1 _ (by omega) SG.out SH.out RG.out RH.out d0 d1).mono ?_
    rintro e w2 ⟨b, rfl, hk, hh, hb2⟩
    have HB2 := Lib.hid (HB.out.trans (hb2.mono HB.out.size))
    have HK := Lib.hid hk
    have HB12 := Lib.hid hb2
    clear hk hh hb2
    cases b with
    | false =>
      go_wp2_with (go_at_call 27; refine (lwakes _).mono ?_; rintro e w' ⟨rfl, rfl⟩)
      go_ret
      exact ⟨rfl, HB2.out⟩
    | true =>
      by_cases q1 : a3 < 0
      · go_wp2_with (go_at_call 27; refine (lwakes _).mono ?_; rintro e w' ⟨rfl, rfl⟩)
        go_ret
        exact ⟨rfl, HB2.out⟩
      by_cases q2 : a4 < a3
      · go_wp2_with (go_at_call 27; refine (lwakes _).mono ?_; rintro e w' ⟨rfl, rfl⟩)
        go_ret
        exact ⟨rfl, HB2.out⟩
      by_cases q3 : (m : Int) ≤ a4
      · go_wp2_with (go_at_call 27; refine (lwakes _).mono ?_; rintro e w' ⟨rfl, rfl⟩)
        go_ret
        exact ⟨rfl, HB2.out⟩
      by_cases q4 : a2 < 0
      · go_wp2_with (go_at_call 27; refine (lwakes _).mono ?_; rintro e w' ⟨rfl, rfl⟩)
        go_ret
        exact ⟨rfl, HB2.out⟩
      by_cases q5 : 1073741824 < a2
      · go_wp2_with (go_at_call 27; refine (lwakes _).mono ?_; rintro e w' ⟨rfl, rfl⟩)
        go_ret
        exact ⟨rfl, HB2.out⟩
      obtain ⟨f, rfl⟩ := Int.eq_ofNat_of_zero_le (show 0 ≤ a3 by omega)
      obtain ⟨g, rfl⟩ := Int.eq_ofNat_of_zero_le (show 0 ≤ a4 by omega)
      have hfg : f ≤ g := by omega
      have hgm : g < m := by omega
      have SH2 := Lib.hid (SH.out.below HB12.out)
      have SG2 := Lib.hid (SG.out.below HB12.out)
      go_wp2_with fail
      obtain ⟨wl, rfl⟩ : ∃ wl : World, wl = w2 := ⟨_, rfl⟩
      go_loopw [14] (fun i wr => ∃ k : Nat, g ≤ k ∧ k ≤ m ∧ i = .int .i64 k ∧ Hid (Below wl.heap.size wl wr)) (fun i _ => m - (intOf i).toNat)
      case atStart => exact ⟨g, Nat.le_refl _, by omega, rfl, Below.refl _ _⟩
      case round =>
        obtain ⟨k, k0, k1, rfl, hbr⟩ := hrel
        by_cases hlt : k < m
        · obtain ⟨bp, op, rfl, ch⟩ := SH2.out.2.resolve_left (by omega)
          obtain ⟨bq, oq, rfl, cg⟩ := SG2.out.2.resolve_left (by omega)
          have eh0 := carried (ch k hlt) hbr.out
          have eh1 := carried (ch f (by omega)) hbr.out
          have eg0 := carried (cg k hlt) hbr.out
          have eg1 := carried (cg g hgm) hbr.out
          clear ch cg
          have hk := HK.out (by trivial) g k k0 hlt
          unfold Kept at hk
          have hm1 := RH.out.2 f g hfg (by have := SH.out.1; omega)
          have hm2 := RH.out.2 g k k0 (by have := SH.out.1; omega)
          obtain ⟨hb0, hb1⟩ := RH.out.1 k (by have := SH.out.1; omega)
          obtain ⟨hb2, hb3⟩ := RH.out.1 f (by have := SH.out.1; omega)
          obtain ⟨gb0, gb1⟩ := RG.out.1 k (by have := SG.out.1; omega)
          obtain ⟨gb2, gb3⟩ := RG.out.1 g (by have := SG.out.1; omega)
          have hno : trustsB (hs.getD f 0) (hs.getD k 0) a2 a1 = true → lapsedB (gs.getD g 0) (gs.getD k 0) a2 = false :=
            not_both a2 a1 _ _ _ _ (by omega) d0 d1 (hs.getD g 0) hm1 hm2 hk
          clear hk hm1 hm2
          generalize hs.getD k 0 = hk1 at *
          generalize hs.getD f 0 = hf1 at *
          generalize gs.getD k 0 = gk1 at *
          generalize gs.getD g 0 = gg1 at *
          have i1 : (k : Int) < (m : Int) := by omega
          have i2 : (f : Int) < (m : Int) := by omega
          have i3 : (g : Int) < (m : Int) := by omega
          cases ht : trustsB hf1 hk1 a2 a1 with
          | true =>
            have hl := hno ht
            have ct : ∀ wx, Calls Try.prog 35 #[.int .i64 hf1, .int .i64 hk1, .int .i64 a2, .int .i64 a1] wx fun e w' => e = .returned (.tuple #[.bool true, .int .i64 0]) ∧ w' = wx := fun wx => by
              have h := trusts_ok hf1 hk1 a2 a1 wx (by omega) (by omega) (by omega) (by omega) (by omega) (by omega) (by omega) (by omega)
              rw [ht] at h
              exact Calls.flip h
            have cl : ∀ wx, Calls Try.prog 36 #[.int .i64 gg1, .int .i64 gk1, .int .i64 a2] wx fun e w' => e = .returned (.tuple #[.bool false, .int .i64 0]) ∧ w' = wx := fun wx => by
              have h := lapsed_ok gg1 gk1 a2 wx (by omega) (by omega) (by omega) (by omega) (by omega) (by omega)
              rw [hl] at h
              exact Calls.flip h
            have CT := Lib.hid ct
            have CL := Lib.hid cl
            clear ct cl ht hno hl
            go_wp2_with fail
            go_quiet ((go_at_call 35; exact Calls.quiet_of_same (CT.out _)))
            go_wp2_with fail
            go_quiet ((go_at_call 36; exact quiet_second (CL.out _)))
            go_wp2_with fail
            go_roundw
            case rel => exact ⟨k + 1, by omega, by omega, by go_num, hbr.out.trans ⟨rfl, rfl, rfl, Nat.le_refl _, fun _ _ => rfl⟩⟩
            case measure => simp [intOf]; omega
          | false =>
            have ct : ∀ wx, Calls Try.prog 35 #[.int .i64 hf1, .int .i64 hk1, .int .i64 a2, .int .i64 a1] wx fun e w' => e = .returned (.tuple #[.bool false, .int .i64 0]) ∧ w' = wx := fun wx => by
              have h := trusts_ok hf1 hk1 a2 a1 wx (by omega) (by omega) (by omega) (by omega) (by omega) (by omega) (by omega) (by omega)
              rw [ht] at h
              exact Calls.flip h
            have cl : ∀ wx, Calls Try.prog 36 #[.int .i64 gg1, .int .i64 gk1, .int .i64 a2] wx fun e w' => e = .returned (.tuple #[.bool (lapsedB gg1 gk1 a2), .int .i64 0]) ∧ w' = wx := fun wx => by
              have h := lapsed_ok gg1 gk1 a2 wx (by omega) (by omega) (by omega) (by omega) (by omega) (by omega)
              exact Calls.flip h
            have CT := Lib.hid ct
            have CL := Lib.hid cl
            clear ct cl ht hno
            go_wp2_with fail
            go_quiet ((go_at_call 35; exact Calls.quiet_of_same (CT.out _)))
            go_wp2_with fail
            go_quiet ((go_at_call 36; exact quiet_second (CL.out _)))
            go_wp2_with fail
            go_roundw
            case rel => exact ⟨k + 1, by omega, by omega, by go_num, hbr.out.trans ⟨rfl, rfl, rfl, Nat.le_refl _, fun _ _ => rfl⟩⟩
            case measure => simp [intOf]; omega
        · go_wp2_with (go_at_call 27; refine (lwakes _).mono ?_; rintro e w' ⟨rfl, rfl⟩)
          go_ret
          exact ⟨rfl, HB2.out.trans (hbr.out.mono HB2.out.size)⟩

/-! ### THE ROW's STEP -/
set_option maxRecDepth 100000 in
theorem lifted (os : Os) (started : os.Started) (H : Type) (enc : TypeId × Value → H) :
    ReturnsInHanded {} Try.checked os 13 .any (Rows.leaseSafeSpec.pre6 enc Try.prog Try.f13 Rows.leaseSafeRow.domain false) (Rows.leaseSafeSpec.post enc Try.prog Try.f13 false true false false) := by
  refine returnsInHanded_of_change (C := Try.checked) own started (by kernel_rfl) Try.func13
    (ChangeSpec.witness6 (enc := enc) (C := Try.checked) false ⟨#[], #[.agg #[.int .i64 0, .int .i64 0, .slice none 0 0, .slice none 0 0], .int .i64 0, .int .i64 0, .int .i64 0, .int .i64 0], []⟩ 8 (by kernel_rfl) (by kernel_rfl) (by kernel_rfl) (by kernel_rfl)) ?_
  intro W base args ds gs before hval0 hW hcnd _
  have hval : ∀ (j : Nat) t v, Try.f13.params[j]? = some t → args[j]? = some v → Value.okWide Try.prog W .any base t v := hval0
  have hW' := hW
  obtain ⟨p, q, hA0, hV, rfl, hfz, hnd⟩ := hW
  have hA : DataW.TrodAll enc Try.prog W 0 (fun _ => true) true Try.f13.params.toList args.toList ds p := hA0
  rw [Try.params13] at hA hval
  obtain ⟨v0, vs0, d0, ds0, p0, q0, hargs, rfl, rfl, h0, r0⟩ := trodAll_cons hA
  obtain ⟨v1, vs1, d1, ds1, p1, q1, rfl, rfl, rfl, h1, r1⟩ := trodAll_cons r0
  obtain ⟨v2, vs2, d2, ds2, p2, q2, rfl, rfl, rfl, h2, r2⟩ := trodAll_cons r1
  obtain ⟨v3, vs3, d3, ds3, p3, q3, rfl, rfl, rfl, h3, r3⟩ := trodAll_cons r2
  obtain ⟨v4, vs4, d4, ds4, p4, q4, rfl, rfl, rfl, h4, r4⟩ := trodAll_cons r3
  obtain ⟨rfl, rfl, rfl⟩ := trodAll_nil r4
  obtain rfl : args = #[v0, v1, v2, v3, v4] := by cases args; simp_all
  obtain ⟨rfl, rfl⟩ := trodVars_none hV
  have k0 := h0
  have lt0 : ∀ x ∈ p0, x.block < W.heap.size := by obtain ⟨m, hm⟩ := k0; exact DataW.trod_lt m _ _ _ hm
  obtain ⟨e0, e1, e2, e3, y0, y1, y2, y3, m, rfl, hd0, hp0, t0, t1, t2, t3⟩ := open_agg4 Try.underlying38 (by kernel_rfl) cells38 (hval 0 38 v0 rfl rfl) h0
  obtain ⟨xH, x0, _, _⟩ := DataW.trod_int Try.underlying3 t0
  obtain ⟨xG, x1, _, _⟩ := DataW.trod_int Try.underlying3 t1
  simp at x0 x1
  subst x0 x1
  obtain ⟨aa, na, ca, za, rfl, sa⟩ := field_ints t2
  obtain ⟨ab, nb, cb, zb, rfl, sb⟩ := field_ints t3
  obtain ⟨i1, rfl, rfl, rfl, w1⟩ := open_int Try.underlying3 (hval 1 3 v1 rfl rfl) h1
  obtain ⟨i2, rfl, rfl, rfl, w2⟩ := open_int Try.underlying3 (hval 2 3 v2 rfl rfl) h2
  obtain ⟨i3, rfl, rfl, rfl, w3⟩ := open_int Try.underlying3 (hval 3 3 v3 rfl rfl) h3
  obtain ⟨i4, rfl, rfl, rfl, w4⟩ := open_int Try.underlying3 (hval 4 3 v4 rfl rfl) h4
  clear hA0 hval0
  refine (walk xH xG aa ab na ca nb cb za zb i1 i2 i3 i4 W sa sb).mono fun e W' ⟨he, bel⟩ => ?_
  subst he
  exact ⟨_, rfl, _, _, _, [], _, [], hW', trodAll_mk1 (shut_bool Try.underlying4 _), (trodAll_cons_mk (Below.trod laidOut (by kernel_rfl) (of_decide_eq_true (by kernel_rfl)) k0 bel lt0) (trodAll_cons_mk (shut_int Try.underlying3 w1) (trodAll_cons_mk (shut_int Try.underlying3 w2) (trodAll_cons_mk (shut_int Try.underlying3 w3) (trodAll_cons_mk (shut_int Try.underlying3 w4) trodAll_mk0))))), rfl, bel.frame _, fun h => by cases h⟩

theorem over : Rows.leaseSafeRow.holds Try.pinned (OpenSpec.ofChange Rows.leaseSafeSpec) :=
  OpenClaim.holds_of_wide 13 Try.f13 rfl rfl rfl rfl rfl rfl rfl ⟨rfl, rfl, rfl, rfl, rfl⟩ rfl rfl rfl rfl rfl (by kernel_rfl) Try.func13 (by kernel_rfl)
    (of_decide_eq_true (by kernel_rfl)) (by unfold Func.isWrapper; first | (rw [if_pos (by decide +kernel)]; kernel_rfl) | (rw [if_neg (by decide +kernel)]; exact ⟨rfl, rfl⟩))
    (fun os started H enc _ => lifted os started H enc)

/-- The statement. -/
theorem proved : Rows.LeaseSafeSaid := over
#print axioms proved
end Go.Proofs.Ytmenifpibbjicaa.leaseSafe
