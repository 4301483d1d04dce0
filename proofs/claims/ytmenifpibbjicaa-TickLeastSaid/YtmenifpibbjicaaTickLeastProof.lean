/-
  Proved: whatever list of ints is handed to hanselaw01.TickLeast, it returns true (the least of ticks is the page's, and the list stays as it was), and its argument reads as before. No conditions.
-/
import Derived.Test.YtmenifpibbjicaaRows
import Derived.Test.YtmenifpibbjicaaLeast2
import Derived.WalkKit
import Derived.ProofKit
import Derived.OpenShut
import Derived.ShutString
import Derived.ChangeOld
import Derived.Below
namespace Go.Proofs.Ytmenifpibbjicaa.tickLeast
open Go.ChangeShapes Go.WideShapes Go.ChangeAt Go.RowKit
open Go.ChangeMaps (open_string shut_string)
open base
set_option linter.unusedVariables false

theorem own : ownKnob Try.prog.godebug = none := by kernel_rfl
theorem laidOut : laidOutB Try.prog = true := by kernel_rfl

/-- WHAT THE WALK IS TOLD OF A SLICE OF INTEGERS THAT CAME IN: it is nil; or it leads to a row of 'cap' cells, the numbers 'zs' (the first 'len' are its elements, the rest its spare room), each fitting its kind. -/
def IsRow (k : IntKind) (w : World) (a : Option Addr) (len cap : Nat) (zs : List Int) : Prop :=
  (a = none ∧ len = 0 ∧ cap = 0 ∧ zs = []) ∨
  ∃ x, a = some x ∧ len ≤ cap ∧ cap ≤ maxLen ∧ zs.length = cap ∧ (∀ i, i < zs.length → w.cell? (x.add i) = some (.int k (zs.getD i 0))) ∧ ∀ n ∈ zs, (Lit.int k n).wf = true

theorem IsRow.slOf {w : World} {a : Option Addr} {len cap : Nat} {zs : List Int} (h : IsRow .i64 w a len cap zs) : SlOf w a len (zs.take len) ∧ (a = none → len = 0 ∧ cap = 0) := by
  rcases h with ⟨rfl, rfl, rfl, rfl⟩ | ⟨x, rfl, hl, hm, hz, hcell, hwz⟩
  · exact ⟨⟨rfl, .inl rfl⟩, fun _ => ⟨rfl, rfl⟩⟩
  · refine ⟨⟨by rw [List.length_take]; omega, ?_⟩, fun h => by cases h⟩
    by_cases h0 : len = 0
    · exact .inl h0
    · obtain ⟨b, off, spot⟩ := x
      have hc := hcell 0 (by omega)
      have hspot : spot = none := by simpa [Addr.add] using World.cell?_spot hc
      subst hspot
      refine .inr ⟨b, off, rfl, fun i hi => ?_⟩
      have := hcell i (by omega)
      rw [Addr.add_lit] at this
      rw [this]
      simp [List.getD, hi]

/-- What is known behind the append: the row's head, its cells, the last of which is -9. -/
theorem behind {w : World} {base : Nat} {v : Value} {len : Nat} {zs : List Int} (hz : zs.length = len) (h : w.ownsRow base 3 1 v (len + 1) (zs.map (Value.int .i64) ++ [.int .i64 (-9)])) :
    ∃ g c, v = .slice (some ⟨g, 0, none⟩) (len + 1) c ∧ len + 1 ≤ c ∧ base ≤ g ∧ g < w.heap.size ∧ SlOf w (some ⟨g, 0, none⟩) len zs ∧ w.cell? ⟨g, len, none⟩ = some (.int .i64 (-9)) := by
  have h' := h
  rcases h.2 with ⟨_, h0⟩ | ⟨g, c, cur, rfl, hb, hg, hn, _, _, _⟩
  · omega
  · refine ⟨g, c, rfl, hn, hb, (Array.getElem?_eq_some_iff.1 hg).1, ⟨hz, .inr ⟨g, 0, rfl, fun i hi => ?_⟩⟩, ?_⟩
    · rw [Nat.zero_add, h'.cellAt i (by omega), List.getElem?_append_left (by simp; omega)]
      simp [List.getD, show i < zs.length by omega]
    · rw [h'.cellAt len (by omega), List.getElem?_append_right (by simp; omega)]
      simp [hz]

/-! ### STEP 1: THE WALK: the Go text returns true, AND WRITES NOTHING THAT WAS THERE: 'Below w.heap.size w w'' (Derived/Below.lean: '.refl', '.alloc', '.drew', '.setCell' at a new block, '.trans'). Open each 'IsRow' by 'rcases' AHEAD of 'go_enter'; part every test ahead of the walk. -/
theorem walk (a0 : Option Addr) (len0 cap0 : Nat) (z0 : List Int) (w : World) (w0 : IsRow .i64 w a0 len0 cap0 z0) :
    Calls Try.prog 5 #[.slice a0 len0 cap0] w fun e w' => e = .returned (.bool true) ∧ Below w.heap.size w w' := by
  obtain ⟨hs, hn⟩ := w0.slOf
  clear w0
  generalize z0.take len0 = zs at *
  by_cases hlen : 4096 < len0
  · clear hs hn
    go_enter Try.func5, Try.ntmps5
    go_wp2_with fail
    go_ret
    exact ⟨rfl, Below.refl _ _⟩
  · obtain ⟨i0, hi, hz0, hz1, hz2⟩ := info_parts Try.info3
    have hz := hs.1
    have HS := Lib.hid hs
    have HN := Lib.hid hn
    have HZ := Lib.hid hz
    clear hs hn hz
    go_enter Try.func5, Try.ntmps5
    go_wp2_with fail
    refine (twin_any _ _ _ zs _ (by omega) HS.out HN.out).mono ?_
    rintro e w1 ⟨v, rfl, hown, hb1⟩
    have HO := Lib.hid hown
    have HB := Lib.hid hb1
    have hsz := hb1.size
    clear hown hb1
    go_wp2_with (at_builtin; refine wpList_append_own _ rfl _ _ 29 rfl w.heap.size 3 i0 (.int .i64 0) 1 8 Try.underlying29 hi hz0 hz1 hz2 rfl (by decide) _ len0 _ rfl (HO.out.alloc _) ⟨w1.heap.size, 0, none⟩ 1 1 [.int .i64 (-9)] rfl rfl ?c1 ?c2 ?c3 ?c4 ?c5 ?_)
    case c1 =>
      intro j u hj
      match j, hj with
      | 0, hj => simp at hj; subst hj; simp [Addr.add]
    case c2 => intro u hu; simp at hu; subst hu; rfl
    case c3 => unfold maxLen; omega
    case c4 => omega
    case c5 => simp; omega
    intro v' w2 hown' hgrow _
    have hb2 : Below w.heap.size w w2 := (HB.out.alloc (by omega) _).grown hgrow (by simp; omega) (fun k hk => (HO.out.lt k hk).1)
    obtain ⟨g, c, hv, hc, hg1, hg2, hsl, hlast⟩ := behind HZ.out hown'
    rw [hv]
    have HB2 := Lib.hid hb2
    have HSL := Lib.hid hsl
    have HS2 := Lib.hid (HS.out.below hb2)
    have hlc : (len0 : Int) ≤ (c : Int) := by omega
    clear hv hown' hgrow hb2 hsl HB HO
    by_cases hr : allRight zs = true
    · go_wp2_with fail
      refine (least_ok _ _ _ zs _ (by omega) HSL.out hr).mono ?_
      rintro e w3 ⟨rfl, rfl⟩
      go_wp2_with fail
      refine (rleast_ok _ _ _ zs _ (by omega) HS2.out hr).mono ?_
      rintro e w3 ⟨rfl, rfl⟩
      go_wp2_with fail
      refine (ints_same _ _ _ _ _ zs _ (by omega) HSL.out HS2.out).mono ?_
      rintro e w3 ⟨rfl, hb3, hh3⟩
      have hlast3 : w3.cell? ⟨g, len0, none⟩ = some (.int .i64 (-9)) := by
        rw [hb3.cell (p := ⟨g, len0, none⟩) hg2]; exact hlast
      have HB3 := Lib.hid hb3
      clear hb3 hh3
      go_wp2_with fail
      refine (wakes _).mono ?_
      rintro e w4 ⟨rfl, rfl⟩
      go_wp2_with fail
      go_ret
      exact ⟨rfl, HB2.out.trans (HB3.out.mono (by have := HB2.out.size; omega))⟩
    · have hr' : allRight zs = false := by simpa using hr
      clear hr
      go_wp2_with fail
      refine (least_bad _ _ _ zs _ (by omega) HSL.out hr').mono ?_
      rintro e w3 ⟨rfl, rfl⟩
      go_wp2_with fail
      refine (rleast_bad _ _ _ zs _ (by omega) HS2.out hr').mono ?_
      rintro e w3 ⟨rfl, rfl⟩
      go_wp2_with fail
      refine (ints_same _ _ _ _ _ zs _ (by omega) HSL.out HS2.out).mono ?_
      rintro e w3 ⟨rfl, hb3, hh3⟩
      have hlast3 : w3.cell? ⟨g, len0, none⟩ = some (.int .i64 (-9)) := by
        rw [hb3.cell (p := ⟨g, len0, none⟩) hg2]; exact hlast
      have HB3 := Lib.hid hb3
      clear hb3 hh3
      go_wp2_with fail
      refine (wakes _).mono ?_
      rintro e w4 ⟨rfl, rfl⟩
      go_wp2_with fail
      go_ret
      exact ⟨rfl, HB2.out.trans (HB3.out.mono (by have := HB2.out.size; omega))⟩

/-! ### THE ROW's STEP: WRITTEN OUT: LEAVE IT -/
set_option maxRecDepth 100000 in
theorem lifted (os : Os) (started : os.Started) (H : Type) (enc : TypeId × Value → H) :
    ReturnsInHanded {} Try.checked os 5 .any (Rows.tickLeastSpec.pre6 enc Try.prog Try.f5 Rows.tickLeastRow.domain false) (Rows.tickLeastSpec.post enc Try.prog Try.f5 false true false false) := by
  refine returnsInHanded_of_change (C := Try.checked) own started (by kernel_rfl) Try.func5
    (ChangeSpec.witness6 (enc := enc) (C := Try.checked) false ⟨#[], #[.slice none 0 0], []⟩ 8 (by kernel_rfl) (by kernel_rfl) (by kernel_rfl) (by kernel_rfl)) ?_
  intro W base args ds gs before hval0 hW hcnd _
  have hval : ∀ (j : Nat) t v, Try.f5.params[j]? = some t → args[j]? = some v → Value.okWide Try.prog W .any base t v := hval0
  have hW' := hW
  obtain ⟨p, q, hA0, hV, rfl, hfz, hnd⟩ := hW
  have hA : DataW.TrodAll enc Try.prog W 0 (fun _ => true) true Try.f5.params.toList args.toList ds p := hA0
  rw [Try.params5] at hA hval
  obtain ⟨v0, vs0, d0, ds0, p0, q0, hargs, rfl, rfl, h0, r0⟩ := trodAll_cons hA
  obtain ⟨rfl, rfl, rfl⟩ := trodAll_nil r0
  obtain rfl : args = #[v0] := by cases args; simp_all
  obtain ⟨rfl, rfl⟩ := trodVars_none hV
  obtain ⟨a0, len0, cap0, rfl⟩ := okWide_slice Try.underlying29 (hval 0 29 v0 rfl rfl)
  have k0 := h0
  have lt0 : ∀ x ∈ p0, x.block < W.heap.size := by obtain ⟨m, hm⟩ := k0; exact DataW.trod_lt m _ _ _ hm
  obtain ⟨z0, w0⟩ : ∃ zs, IsRow .i64 W a0 len0 cap0 zs := by
    obtain ⟨fuel, hf⟩ := h0
    rcases open_ints Try.underlying29 Try.underlying3 (by kernel_rfl) hf with ⟨hcs, _⟩ | ⟨x, l, c, zs, hcs, _, hl, hm, hz, _, hcell, hwz⟩
    · simp [Value.cells] at hcs
      obtain ⟨rfl, rfl, rfl⟩ := hcs
      exact ⟨[], .inl ⟨rfl, rfl, rfl, rfl⟩⟩
    · simp [Value.cells] at hcs
      obtain ⟨rfl, rfl, rfl⟩ := hcs
      exact ⟨zs, .inr ⟨_, rfl, hl, hm, by simpa using hz, hcell, hwz⟩⟩
  clear hA0 hval0
  refine (walk a0 len0 cap0 z0 W w0).mono fun e W' ⟨he, bel⟩ => ?_
  subst he
  exact ⟨_, rfl, _, _, _, [], _, [], hW', trodAll_mk1 (shut_bool Try.underlying4 _), (trodAll_cons_mk (Below.trod laidOut (by kernel_rfl) (of_decide_eq_true (by kernel_rfl)) k0 bel lt0) trodAll_mk0), rfl, bel.frame _, fun h => by cases h⟩

theorem over : Rows.tickLeastRow.holds Try.pinned (OpenSpec.ofChange Rows.tickLeastSpec) :=
  OpenClaim.holds_of_wide 5 Try.f5 rfl rfl rfl rfl rfl rfl rfl ⟨rfl, rfl, rfl, rfl, rfl⟩ rfl rfl rfl rfl rfl (by kernel_rfl) Try.func5 (by kernel_rfl)
    (of_decide_eq_true (by kernel_rfl)) (by unfold Func.isWrapper; first | (rw [if_pos (by decide +kernel)]; kernel_rfl) | (rw [if_neg (by decide +kernel)]; exact ⟨rfl, rfl⟩))
    (fun os started H enc _ => lifted os started H enc)

/-- ████ THE STATEMENT ████ -/
theorem proved : Rows.TickLeastSaid := over
#print axioms proved
end Go.Proofs.Ytmenifpibbjicaa.tickLeast
