/-
  Proved: whatever two lists of ints are handed to hanselaw01.TickLeastOf, it returns true (the least of ticks is one of them, and none is less; of two lists it is the less one of both; of none it is Forever), and its arguments read as before. No conditions.
-/
import Derived.Test.YtmenifpibbjicaaRows
import Derived.Test.YtmenifpibbjicaaLeast3
import Derived.WalkKit
import Derived.ProofKit
import Derived.OpenShut
import Derived.ShutString
import Derived.ChangeOld
import Derived.Below
namespace Go.Proofs.Ytmenifpibbjicaa.tickLeastOf
open Go.ChangeShapes Go.WideShapes Go.ChangeAt Go.RowKit
open Go.ChangeMaps (open_string shut_string)
open base
set_option linter.unusedVariables false

theorem own : ownKnob Try.prog.godebug = none := by kernel_rfl
theorem laidOut : laidOutB Try.prog = true := by kernel_rfl

/-- WHAT THE WALK IS TOLD OF A SLICE OF INTEGERS THAT CAME IN: it is nil; or it leads to a row of 'cap' cells, the numbers 'zs' (the first 'len' are its elements, the rest its spare room), each fitting its kind. -/
def IsRow (k : IntKind) (w : World) (a : Option Addr) (len cap : Nat) (zs : List Int) : Prop :=
  (a = none ∧ len = 0 ∧ cap = 0 ∧ zs = []) ∨
  ∃ x, a = some x ∧ len ≤ cap ∧ cap ≤ maxLen ∧ zs.length = cap ∧ (∀ i, i < zs.length → w.cell? (x.add i) = some (.int k (zs.getD i 0))) ∧ ∀ n ∈ zs, (Lit.int k n).wf = true

theorem IsRow.slOf {w : World} {a : Option Addr} {len cap : Nat} {zs : List Int} (h : IsRow .i64 w a len cap zs) : SlOf w a len (zs.take len) ∧ (a = none → len = 0 ∧ cap = 0) := by
  rcases h with ⟨rfl, rfl, rfl, rfl⟩ | ⟨x, rfl, hl, hm, hz, hcell, hwz⟩
  · exact ⟨⟨rfl, .inl rfl⟩, fun _ => ⟨rfl, rfl⟩⟩
  · refine ⟨⟨by rw [List.length_take]; omega, ?_⟩, fun h => by cases h⟩
    by_cases h0 : len = 0
    · exact .inl h0
    · obtain ⟨b, off, spot⟩ := x
      have hc := hcell 0 (by omega)
      have hspot : spot = none := by simpa [Addr.add] using World.cell?_spot hc
      subst hspot
      refine .inr ⟨b, off, rfl, fun i hi => ?_⟩
      have := hcell i (by omega)
      rw [Addr.add_lit] at this
      rw [this]
      simp [List.getD, hi]

theorem getD_mem (l : List Int) (k : Nat) (h : k < l.length) : l.getD k 0 ∈ l := by simp [List.getD, h]

/-- Is the least among the first k? -/
def among (zs : List Int) (k : Nat) : Bool := (zs.take k).any fun t => t == leastF zs

theorem among_succ (zs : List Int) (k : Nat) (h : k < zs.length) : among zs (k + 1) = (among zs k || zs.getD k 0 == leastF zs) := by
  unfold among; rw [take_snoc zs k h]; simp [List.any_append]

theorem among_all {zs : List Int} (hne : zs ≠ []) (hr : allRight zs = true) : among zs zs.length = true := by
  unfold among
  rw [List.take_of_length_le (Nat.le_refl _), List.any_eq_true]
  exact ⟨_, leastF_mem hne hr, by simp⟩

/-! ### STEP 1: THE WALK: the Go text returns true, AND WRITES NOTHING THAT WAS THERE: 'Below w.heap.size w w'' (Derived/Below.lean: '.refl', '.alloc', '.drew', '.setCell' at a new block, '.trans'). Open each 'IsRow' by 'rcases' AHEAD of 'go_enter'; part every test ahead of the walk. -/
theorem walk (a0 : Option Addr) (len0 cap0 : Nat) (z0 : List Int) (a1 : Option Addr) (len1 cap1 : Nat) (z1 : List Int) (w : World) (w0 : IsRow .i64 w a0 len0 cap0 z0) (w1 : IsRow .i64 w a1 len1 cap1 z1) :
    Calls Try.prog 6 #[.slice a0 len0 cap0, .slice a1 len1 cap1] w fun e w' => e = .returned (.bool true) ∧ Below w.heap.size w w' := by
  obtain ⟨hs0, hn0⟩ := w0.slOf
  obtain ⟨hs1, hn1⟩ := w1.slOf
  clear w0 w1
  generalize z0.take len0 = za at *
  generalize z1.take len1 = zb at *
  by_cases hl0 : 2000 < len0
  · clear hs0 hn0 hs1 hn1
    go_enter Try.func6, Try.ntmps6
    go_wp2_with fail
    go_ret
    exact ⟨rfl, Below.refl _ _⟩
  by_cases hl1 : 2000 < len1
  · clear hs0 hn0 hs1 hn1
    go_enter Try.func6, Try.ntmps6
    go_wp2_with fail
    go_ret
    exact ⟨rfl, Below.refl _ _⟩
  obtain ⟨i0, hi, hz0, hz1, hz2⟩ := info_parts Try.info3
  have hown := World.ownsRow_nil w w.heap.size 3 1
  have la : (za.map (Value.int .i64)).length = len0 * 1 := by simpa using hs0.1
  have lb : (zb.map (Value.int .i64)).length = len1 * 1 := by simpa using hs1.1
  have HS0 := Lib.hid hs0
  have HN0 := Lib.hid hn0
  have HS1 := Lib.hid hs1
  have HN1 := Lib.hid hn1
  have LA := Lib.hid la
  have LB := Lib.hid lb
  have HO := Lib.hid hown
  clear hs0 hn0 hs1 hn1 la lb hown
  by_cases ra : allRight za = true
  · by_cases rb : allRight zb = true
    · go_enter Try.func6, Try.ntmps6
      go_wp2_with fail
      refine (least_ok _ _ _ za _ (by omega) HS0.out ra).mono ?_
      rintro e w3 ⟨rfl, rfl⟩
      go_wp2_with fail
      refine (least_ok _ _ _ zb _ (by omega) HS1.out rb).mono ?_
      rintro e w3 ⟨rfl, rfl⟩
      go_wp2_with (at_builtin; refine append_own_any _ rfl (.tmp 32) (.tmp 33) 29 rfl w.heap.size 3 i0 (.int .i64 0) 1 8 Try.underlying29 hi hz0 hz1 hz2 rfl (by decide) _ 0 [] rfl HO.out a0 len0 cap0 _ rfl LA.out HN0.out HS0.out.newsAny (ints_oneCell _ _) (by unfold maxLen; omega) (by omega) (Nat.le_refl _) ?_)
      intro v1 w1 hown1 hgrow1
      have hb1 : Below w.heap.size w w1 := (Below.refl _ _).grown hgrow1 (Nat.le_refl _) (fun k h => by simp [Value.ownBlock] at h)
      have HO1 := Lib.hid hown1
      have HB1 := Lib.hid hb1
      clear hown1 hgrow1 hb1
      go_wp2_with (at_builtin; refine append_own_any _ rfl (.tmp 34) (.tmp 35) 29 rfl w.heap.size 3 i0 (.int .i64 0) 1 8 Try.underlying29 hi hz0 hz1 hz2 rfl (by decide) _ len0 _ rfl HO1.out a1 len1 cap1 _ rfl LB.out HN1.out (HS1.out.below HB1.out).newsAny (ints_oneCell _ _) (by unfold maxLen; omega) (by omega) HB1.out.size ?_)
      intro v2 w2 hown2 hgrow2
      have hb2 : Below w.heap.size w w2 := HB1.out.grown hgrow2 HB1.out.size (fun k h => (HO1.out.lt k h).1)
      have hx : ∃ (n : Nat) (a : Option Addr) (c : Nat), v2 = .slice a n c ∧ n = len0 + len1 ∧ SlOf w2 a n (za ++ zb) := by
        rw [← List.map_append] at hown2
        obtain ⟨a, c, h1, h2⟩ := owns_slOf hown2
        exact ⟨_, a, c, h1, rfl, h2⟩
      obtain ⟨n, a, c, hv, hn, hsl⟩ := hx
      rw [hv]
      have hnb : n ≤ 4000 := by omega
      have hz := hsl.1
      have hr : allRight (za ++ zb) = true := by rw [allRight_append, ra, rb]; rfl
      have hle := leastF_append za zb
      have hmem : ∀ (k : Nat), k < n → leastF (za ++ zb) ≤ (za ++ zb).getD k 0 := fun k hk => leastF_le _ _ (getD_mem _ _ (by omega))
      generalize za ++ zb = zs at *
      have HB2 := Lib.hid hb2
      have HSL := Lib.hid hsl
      have HLE := Lib.hid hle
      have HM := Lib.hid hmem
      have HZ := Lib.hid hz
      clear hv hn hown2 hgrow2 hb2 hsl hle hmem hz HB1 HO1 HO LA LB HN0 HN1
      go_wp2_with fail
      refine (least_ok _ _ _ zs _ (by omega) HSL.out hr).mono ?_
      rintro e w3 ⟨rfl, rfl⟩
      by_cases h0 : n = 0
      · subst h0
        obtain rfl : zs = [] := List.eq_nil_of_length_eq_zero HZ.out
        have el : leastF [] = 1099511627776 := rfl
        have EL := Lib.hid el
        rw [el]
        clear el hr
        go_wp2_with fail
        go_loop [12, 13] (fun q i => q = .bool true ∧ i = .int .i64 0) (fun _ _ => 0)
        case atStart => exact ⟨rfl, rfl⟩
        case round =>
          obtain ⟨rfl, rfl⟩ := hrel
          by_cases hm : leastF za ≤ leastF zb
          · have e1 : (1099511627776 == leastF za) = true := by
              rw [← EL.out, HLE.out]; unfold lessF; rw [if_pos hm]; simp
            go_wp2_with (go_at_call 16; refine (wakes _).mono ?_; rintro e w' ⟨rfl, rfl⟩)
            go_ret
            exact ⟨rfl, HB2.out⟩
          · have e1 : (1099511627776 == leastF zb) = true := by
              rw [← EL.out, HLE.out]; unfold lessF; rw [if_neg hm]; simp
            have hm' : leastF zb < leastF za := by omega
            clear hm
            go_wp2_with (go_at_call 16; refine (wakes _).mono ?_; rintro e w' ⟨rfl, rfl⟩)
            go_ret
            exact ⟨rfl, HB2.out⟩
      · have hb : ((n : Int) == 0) = false := by simp; omega
        have hall : among zs n = true := by
          have := among_all (zs := zs) (fun h => h0 (by have := HZ.out; rw [h] at this; exact this.symm)) hr
          rwa [HZ.out] at this
        have HA := Lib.hid hall
        clear hall hr
        go_wp2_with fail
        go_loop [12, 13] (fun q i => ∃ k : Nat, k ≤ n ∧ i = .int .i64 k ∧ q = .bool (among zs k)) (fun _ i => n - (intOf i).toNat)
        case atStart => exact ⟨0, Nat.zero_le _, rfl, rfl⟩
        case round =>
          obtain ⟨k, hk, rfl, rfl⟩ := hrel
          by_cases hlt : k < n
          · obtain ⟨b, off, rfl, hc⟩ := HSL.out.2.resolve_left (by omega)
            have hcell := hc k hlt
            have hge := HM.out k hlt
            have es := among_succ zs k (by have := HZ.out; omega)
            have ES := Lib.hid es
            clear es hc
            generalize hz : zs.getD k 0 = z at *
            generalize hq : among zs k = q at *
            clear hz hq
            cases q with
            | true =>
              go_wp2_with fail
              go_round
              case rel => exact ⟨k + 1, by omega, by go_num, by rw [ES.out]; rfl⟩
              case measure => simp [intOf]; omega
            | false =>
              go_wp2_with fail
              go_round
              case rel => exact ⟨k + 1, by omega, by go_num, by rw [ES.out]; rfl⟩
              case measure => simp [intOf]; omega
          · obtain rfl : k = n := by omega
            have ha := HA.out
            by_cases hm : leastF za ≤ leastF zb
            · have e1 : (leastF zs == leastF za) = true := by
                rw [HLE.out]; unfold lessF; rw [if_pos hm]; simp
              go_wp2_with (go_at_call 16; refine (wakes _).mono ?_; rintro e w' ⟨rfl, rfl⟩)
              go_ret
              exact ⟨rfl, HB2.out⟩
            · have e1 : (leastF zs == leastF zb) = true := by
                rw [HLE.out]; unfold lessF; rw [if_neg hm]; simp
              have hm' : leastF zb < leastF za := by omega
              clear hm
              go_wp2_with (go_at_call 16; refine (wakes _).mono ?_; rintro e w' ⟨rfl, rfl⟩)
              go_ret
              exact ⟨rfl, HB2.out⟩
    · have rb' : allRight zb = false := by simpa using rb
      clear rb
      go_enter Try.func6, Try.ntmps6
      go_wp2_with fail
      refine (least_ok _ _ _ za _ (by omega) HS0.out ra).mono ?_
      rintro e w3 ⟨rfl, rfl⟩
      go_wp2_with fail
      refine (least_bad _ _ _ zb _ (by omega) HS1.out rb').mono ?_
      rintro e w3 ⟨rfl, rfl⟩
      go_wp2_with (at_builtin; refine append_own_any _ rfl (.tmp 32) (.tmp 33) 29 rfl w.heap.size 3 i0 (.int .i64 0) 1 8 Try.underlying29 hi hz0 hz1 hz2 rfl (by decide) _ 0 [] rfl HO.out a0 len0 cap0 _ rfl LA.out HN0.out HS0.out.newsAny (ints_oneCell _ _) (by unfold maxLen; omega) (by omega) (Nat.le_refl _) ?_)
      intro v1 w1 hown1 hgrow1
      have hb1 : Below w.heap.size w w1 := (Below.refl _ _).grown hgrow1 (Nat.le_refl _) (fun k h => by simp [Value.ownBlock] at h)
      have HO1 := Lib.hid hown1
      have HB1 := Lib.hid hb1
      clear hown1 hgrow1 hb1
      go_wp2_with (at_builtin; refine append_own_any _ rfl (.tmp 34) (.tmp 35) 29 rfl w.heap.size 3 i0 (.int .i64 0) 1 8 Try.underlying29 hi hz0 hz1 hz2 rfl (by decide) _ len0 _ rfl HO1.out a1 len1 cap1 _ rfl LB.out HN1.out (HS1.out.below HB1.out).newsAny (ints_oneCell _ _) (by unfold maxLen; omega) (by omega) HB1.out.size ?_)
      intro v2 w2 hown2 hgrow2
      have hb2 : Below w.heap.size w w2 := HB1.out.grown hgrow2 HB1.out.size (fun k h => (HO1.out.lt k h).1)
      have hx : ∃ (n : Nat) (a : Option Addr) (c : Nat), v2 = .slice a n c ∧ n = len0 + len1 ∧ SlOf w2 a n (za ++ zb) := by
        rw [← List.map_append] at hown2
        obtain ⟨a, c, h1, h2⟩ := owns_slOf hown2
        exact ⟨_, a, c, h1, rfl, h2⟩
      obtain ⟨n, a, c, hv, hn, hsl⟩ := hx
      rw [hv]
      have hnb : n ≤ 4000 := by omega
      have hr : allRight (za ++ zb) = false := by rw [allRight_append, ra, rb']; rfl
      generalize za ++ zb = zs at *
      have HB2 := Lib.hid hb2
      have HSL := Lib.hid hsl
      clear hv hn hown2 hgrow2 hb2 hsl HB1 HO1 HO LA LB HN0 HN1
      go_wp2_with fail
      refine (least_bad _ _ _ zs _ (by omega) HSL.out hr).mono ?_
      rintro e w3 ⟨rfl, rfl⟩
      go_wp2_with (go_at_call 16; refine (wakes _).mono ?_; rintro e w' ⟨rfl, rfl⟩)
      go_ret
      exact ⟨rfl, HB2.out⟩
  · have ra' : allRight za = false := by simpa using ra
    clear ra
    by_cases rb : allRight zb = true
    · go_enter Try.func6, Try.ntmps6
      go_wp2_with fail
      refine (least_bad _ _ _ za _ (by omega) HS0.out ra').mono ?_
      rintro e w3 ⟨rfl, rfl⟩
      go_wp2_with fail
      refine (least_ok _ _ _ zb _ (by omega) HS1.out rb).mono ?_
      rintro e w3 ⟨rfl, rfl⟩
      go_wp2_with (at_builtin; refine append_own_any _ rfl (.tmp 32) (.tmp 33) 29 rfl w.heap.size 3 i0 (.int .i64 0) 1 8 Try.underlying29 hi hz0 hz1 hz2 rfl (by decide) _ 0 [] rfl HO.out a0 len0 cap0 _ rfl LA.out HN0.out HS0.out.newsAny (ints_oneCell _ _) (by unfold maxLen; omega) (by omega) (Nat.le_refl _) ?_)
      intro v1 w1 hown1 hgrow1
      have hb1 : Below w.heap.size w w1 := (Below.refl _ _).grown hgrow1 (Nat.le_refl _) (fun k h => by simp [Value.ownBlock] at h)
      have HO1 := Lib.hid hown1
      have HB1 := Lib.hid hb1
      clear hown1 hgrow1 hb1
      go_wp2_with (at_builtin; refine append_own_any _ rfl (.tmp 34) (.tmp 35) 29 rfl w.heap.size 3 i0 (.int .i64 0) 1 8 Try.underlying29 hi hz0 hz1 hz2 rfl (by decide) _ len0 _ rfl HO1.out a1 len1 cap1 _ rfl LB.out HN1.out (HS1.out.below HB1.out).newsAny (ints_oneCell _ _) (by unfold maxLen; omega) (by omega) HB1.out.size ?_)
      intro v2 w2 hown2 hgrow2
      have hb2 : Below w.heap.size w w2 := HB1.out.grown hgrow2 HB1.out.size (fun k h => (HO1.out.lt k h).1)
      have hx : ∃ (n : Nat) (a : Option Addr) (c : Nat), v2 = .slice a n c ∧ n = len0 + len1 ∧ SlOf w2 a n (za ++ zb) := by
        rw [← List.map_append] at hown2
        obtain ⟨a, c, h1, h2⟩ := owns_slOf hown2
        exact ⟨_, a, c, h1, rfl, h2⟩
      obtain ⟨n, a, c, hv, hn, hsl⟩ := hx
      rw [hv]
      have hnb : n ≤ 4000 := by omega
      have hr : allRight (za ++ zb) = false := by rw [allRight_append, ra', rb]; rfl
      generalize za ++ zb = zs at *
      have HB2 := Lib.hid hb2
      have HSL := Lib.hid hsl
      clear hv hn hown2 hgrow2 hb2 hsl HB1 HO1 HO LA LB HN0 HN1
      go_wp2_with fail
      refine (least_bad _ _ _ zs _ (by omega) HSL.out hr).mono ?_
      rintro e w3 ⟨rfl, rfl⟩
      go_wp2_with (go_at_call 16; refine (wakes _).mono ?_; rintro e w' ⟨rfl, rfl⟩)
      go_ret
      exact ⟨rfl, HB2.out⟩
    · have rb' : allRight zb = false := by simpa using rb
      clear rb
      go_enter Try.func6, Try.ntmps6
      go_wp2_with fail
      refine (least_bad _ _ _ za _ (by omega) HS0.out ra').mono ?_
      rintro e w3 ⟨rfl, rfl⟩
      go_wp2_with fail
      refine (least_bad _ _ _ zb _ (by omega) HS1.out rb').mono ?_
      rintro e w3 ⟨rfl, rfl⟩
      go_wp2_with (at_builtin; refine append_own_any _ rfl (.tmp 32) (.tmp 33) 29 rfl w.heap.size 3 i0 (.int .i64 0) 1 8 Try.underlying29 hi hz0 hz1 hz2 rfl (by decide) _ 0 [] rfl HO.out a0 len0 cap0 _ rfl LA.out HN0.out HS0.out.newsAny (ints_oneCell _ _) (by unfold maxLen; omega) (by omega) (Nat.le_refl _) ?_)
      intro v1 w1 hown1 hgrow1
      have hb1 : Below w.heap.size w w1 := (Below.refl _ _).grown hgrow1 (Nat.le_refl _) (fun k h => by simp [Value.ownBlock] at h)
      have HO1 := Lib.hid hown1
      have HB1 := Lib.hid hb1
      clear hown1 hgrow1 hb1
      go_wp2_with (at_builtin; refine append_own_any _ rfl (.tmp 34) (.tmp 35) 29 rfl w.heap.size 3 i0 (.int .i64 0) 1 8 Try.underlying29 hi hz0 hz1 hz2 rfl (by decide) _ len0 _ rfl HO1.out a1 len1 cap1 _ rfl LB.out HN1.out (HS1.out.below HB1.out).newsAny (ints_oneCell _ _) (by unfold maxLen; omega) (by omega) HB1.out.size ?_)
      intro v2 w2 hown2 hgrow2
      have hb2 : Below w.heap.size w w2 := HB1.out.grown hgrow2 HB1.out.size (fun k h => (HO1.out.lt k h).1)
      have hx : ∃ (n : Nat) (a : Option Addr) (c : Nat), v2 = .slice a n c ∧ n = len0 + len1 ∧ SlOf w2 a n (za ++ zb) := by
        rw [← List.map_append] at hown2
        obtain ⟨a, c, h1, h2⟩ := owns_slOf hown2
        exact ⟨_, a, c, h1, rfl, h2⟩
      obtain ⟨n, a, c, hv, hn, hsl⟩ := hx
      rw [hv]
      have hnb : n ≤ 4000 := by omega
      have hr : allRight (za ++ zb) = false := by rw [allRight_append, ra', rb']; rfl
      generalize za ++ zb = zs at *
      have HB2 := Lib.hid hb2
      have HSL := Lib.hid hsl
      clear hv hn hown2 hgrow2 hb2 hsl HB1 HO1 HO LA LB HN0 HN1
      go_wp2_with fail
      refine (least_bad _ _ _ zs _ (by omega) HSL.out hr).mono ?_
      rintro e w3 ⟨rfl, rfl⟩
      go_wp2_with (go_at_call 16; refine (wakes _).mono ?_; rintro e w' ⟨rfl, rfl⟩)
      go_ret
      exact ⟨rfl, HB2.out⟩

/-! ### THE ROW's STEP: WRITTEN OUT: LEAVE IT -/
set_option maxRecDepth 100000 in
theorem lifted (os : Os) (started : os.Started) (H : Type) (enc : TypeId × Value → H) :
    ReturnsInHanded {} Try.checked os 6 .any (Rows.tickLeastOfSpec.pre6 enc Try.prog Try.f6 Rows.tickLeastOfRow.domain false) (Rows.tickLeastOfSpec.post enc Try.prog Try.f6 false true false false) := by
  refine returnsInHanded_of_change (C := Try.checked) own started (by kernel_rfl) Try.func6
    (ChangeSpec.witness6 (enc := enc) (C := Try.checked) false ⟨#[], #[.slice none 0 0, .slice none 0 0], []⟩ 8 (by kernel_rfl) (by kernel_rfl) (by kernel_rfl) (by kernel_rfl)) ?_
  intro W base args ds gs before hval0 hW hcnd _
  have hval : ∀ (j : Nat) t v, Try.f6.params[j]? = some t → args[j]? = some v → Value.okWide Try.prog W .any base t v := hval0
  have hW' := hW
  obtain ⟨p, q, hA0, hV, rfl, hfz, hnd⟩ := hW
  have hA : DataW.TrodAll enc Try.prog W 0 (fun _ => true) true Try.f6.params.toList args.toList ds p := hA0
  rw [Try.params6] at hA hval
  obtain ⟨v0, vs0, d0, ds0, p0, q0, hargs, rfl, rfl, h0, r0⟩ := trodAll_cons hA
  obtain ⟨v1, vs1, d1, ds1, p1, q1, rfl, rfl, rfl, h1, r1⟩ := trodAll_cons r0
  obtain ⟨rfl, rfl, rfl⟩ := trodAll_nil r1
  obtain rfl : args = #[v0, v1] := by cases args; simp_all
  obtain ⟨rfl, rfl⟩ := trodVars_none hV
  obtain ⟨a0, len0, cap0, rfl⟩ := okWide_slice Try.underlying29 (hval 0 29 v0 rfl rfl)
  have k0 := h0
  have lt0 : ∀ x ∈ p0, x.block < W.heap.size := by obtain ⟨m, hm⟩ := k0; exact DataW.trod_lt m _ _ _ hm
  obtain ⟨z0, w0⟩ : ∃ zs, IsRow .i64 W a0 len0 cap0 zs := by
    obtain ⟨fuel, hf⟩ := h0
    rcases open_ints Try.underlying29 Try.underlying3 (by kernel_rfl) hf with ⟨hcs, _⟩ | ⟨x, l, c, zs, hcs, _, hl, hm, hz, _, hcell, hwz⟩
    · simp [Value.cells] at hcs
      obtain ⟨rfl, rfl, rfl⟩ := hcs
      exact ⟨[], .inl ⟨rfl, rfl, rfl, rfl⟩⟩
    · simp [Value.cells] at hcs
      obtain ⟨rfl, rfl, rfl⟩ := hcs
      exact ⟨zs, .inr ⟨_, rfl, hl, hm, by simpa using hz, hcell, hwz⟩⟩
  obtain ⟨a1, len1, cap1, rfl⟩ := okWide_slice Try.underlying29 (hval 1 29 v1 rfl rfl)
  have k1 := h1
  have lt1 : ∀ x ∈ p1, x.block < W.heap.size := by obtain ⟨m, hm⟩ := k1; exact DataW.trod_lt m _ _ _ hm
  obtain ⟨z1, w1⟩ : ∃ zs, IsRow .i64 W a1 len1 cap1 zs := by
    obtain ⟨fuel, hf⟩ := h1
    rcases open_ints Try.underlying29 Try.underlying3 (by kernel_rfl) hf with ⟨hcs, _⟩ | ⟨x, l, c, zs, hcs, _, hl, hm, hz, _, hcell, hwz⟩
    · simp [Value.cells] at hcs
      obtain ⟨rfl, rfl, rfl⟩ := hcs
      exact ⟨[], .inl ⟨rfl, rfl, rfl, rfl⟩⟩
    · simp [Value.cells] at hcs
      obtain ⟨rfl, rfl, rfl⟩ := hcs
      exact ⟨zs, .inr ⟨_, rfl, hl, hm, by simpa using hz, hcell, hwz⟩⟩
  clear hA0 hval0
  refine (walk a0 len0 cap0 z0 a1 len1 cap1 z1 W w0 w1).mono fun e W' ⟨he, bel⟩ => ?_
  subst he
  exact ⟨_, rfl, _, _, _, [], _, [], hW', trodAll_mk1 (shut_bool Try.underlying4 _), (trodAll_cons_mk (Below.trod laidOut (by kernel_rfl) (of_decide_eq_true (by kernel_rfl)) k0 bel lt0) (trodAll_cons_mk (Below.trod laidOut (by kernel_rfl) (of_decide_eq_true (by kernel_rfl)) k1 bel lt1) trodAll_mk0)), rfl, bel.frame _, fun h => by cases h⟩

theorem over : Rows.tickLeastOfRow.holds Try.pinned (OpenSpec.ofChange Rows.tickLeastOfSpec) :=
  OpenClaim.holds_of_wide 6 Try.f6 rfl rfl rfl rfl rfl rfl rfl ⟨rfl, rfl, rfl, rfl, rfl⟩ rfl rfl rfl rfl rfl (by kernel_rfl) Try.func6 (by kernel_rfl)
    (of_decide_eq_true (by kernel_rfl)) (by unfold Func.isWrapper; first | (rw [if_pos (by decide +kernel)]; kernel_rfl) | (rw [if_neg (by decide +kernel)]; exact ⟨rfl, rfl⟩))
    (fun os started H enc _ => lifted os started H enc)

/-- ████ THE STATEMENT ████ -/
theorem proved : Rows.TickLeastOfSaid := over
#print axioms proved
end Go.Proofs.Ytmenifpibbjicaa.tickLeastOf
