/-
  The contracts of the page's Least (hanseref01), of hansekeep.TwinInts and of hansekeep.Ints, each once.
-/
import Derived.Test.YtmenifpibbjicaaLeast
import Derived.Deep.QuietTactic
import Derived.BigQuiet
import Derived.Laws.AppendOwnNone
namespace Go.Proofs.Ytmenifpibbjicaa.base
open Go.RowKit

set_option maxHeartbeats 400000 in
theorem rleast_ok (a : Option Addr) (len cap : Nat) (zs : List Int) (w : World) (hlen : len ≤ 100000) (hs : SlOf w a len zs) (hr : allRight zs = true) :
    Calls Try.prog 21 #[.slice a len cap] w fun e w' => e = .returned (.tuple #[.int .i64 (leastF zs), .int .i64 0]) ∧ w = w' := by
  obtain ⟨hz, hs⟩ := hs
  go_enter Try.func21, Try.ntmps21
  go_wp2_with fail
  go_loop [4, 5] (fun t i => ∃ k : Nat, k ≤ len ∧ i = .int .i64 k ∧ t = .int .i64 (leastF (zs.take k))) (fun _ i => len - (intOf i).toNat)
  case atStart => exact ⟨0, Nat.zero_le _, rfl, rfl⟩
  case round =>
    obtain ⟨k, hk, rfl, rfl⟩ := hrel
    obtain ⟨m0, m1⟩ := leastF_bd (allRight_take hr k)
    by_cases hlt : k < len
    · obtain ⟨b, off, rfl, hc⟩ := hs.resolve_left (by omega)
      have hcell := hc k hlt
      obtain ⟨z0, z1⟩ := allRight_at hr k (by omega)
      have es := leastF_snoc (zs.take k) (zs.getD k 0)
      rw [← take_snoc zs k (by omega)] at es
      generalize zs.getD k 0 = z at *
      have ES := Lib.hid es
      clear es hc hs hz
      by_cases hm : leastF (zs.take k) ≤ z
      · go_wp2_with (go_at_call 30; refine (rright_yes _ _ (by omega) (by omega)).mono ?_; rintro e w' ⟨rfl, rfl⟩)
        go_round
        case rel => exact ⟨k + 1, by omega, by go_num, by rw [ES.out, if_pos hm]⟩
        case measure => simp [intOf]; omega
      · go_wp2_with (go_at_call 30; refine (rright_yes _ _ (by omega) (by omega)).mono ?_; rintro e w' ⟨rfl, rfl⟩)
        go_round
        case rel => exact ⟨k + 1, by omega, by go_num, by rw [ES.out, if_neg (by omega)]⟩
        case measure => simp [intOf]; omega
    · have HZ := Lib.hid hz
      clear hz
      go_wp2_with fail
      go_ret2
      exact ⟨by rw [List.take_of_length_le (by have := HZ.out; omega)]; rfl, rfl⟩

set_option maxHeartbeats 400000 in
theorem rleast_bad (a : Option Addr) (len cap : Nat) (zs : List Int) (w : World) (hlen : len ≤ 100000) (hs : SlOf w a len zs) (hr : allRight zs = false) :
    Calls Try.prog 21 #[.slice a len cap] w fun e w' => e = .returned (.tuple #[.int .i64 0, .int .i64 1]) ∧ w = w' := by
  obtain ⟨hz, hs⟩ := hs
  obtain ⟨n, n1, n2, n3⟩ := not_allRight hr
  obtain ⟨b, off, rfl, hc⟩ := hs.resolve_left (by omega)
  clear hs hr
  have HZ := Lib.hid hz
  have n1' : n < len := by omega
  clear hz n1
  have HC := Lib.hid hc
  clear hc
  have N3 := Lib.hid n3
  clear n3
  go_enter Try.func21, Try.ntmps21
  go_wp2_with fail
  go_loop [4, 5] (fun t i => ∃ (k : Nat) (x : Int), k ≤ n ∧ i = .int .i64 k ∧ t = .int .i64 x) (fun _ i => len - (intOf i).toNat)
  case atStart => exact ⟨0, _, Nat.zero_le _, rfl, rfl⟩
  case round =>
    obtain ⟨k, x, hk, rfl, rfl⟩ := hrel
    have hcell := HC.out k (by omega)
    by_cases hlt : k < n
    · have hb : 0 ≤ zs.getD k 0 ∧ zs.getD k 0 ≤ 1099511627776 := by
        have := allRight_at N3.out k (by rw [List.length_take, HZ.out]; omega)
        rwa [show (zs.take n).getD k 0 = zs.getD k 0 from by simp [List.getD, hlt]] at this
      obtain ⟨z0, z1⟩ := hb
      generalize zs.getD k 0 = z at *
      have hkl : k < len := by omega
      by_cases hm : x ≤ z
      · go_wp2_with (go_at_call 30; refine (rright_yes _ _ (by omega) (by omega)).mono ?_; rintro e w' ⟨rfl, rfl⟩)
        go_round
        case rel => exact ⟨k + 1, _, by omega, by go_num, rfl⟩
        case measure => simp [intOf]; omega
      · go_wp2_with (go_at_call 30; refine (rright_yes _ _ (by omega) (by omega)).mono ?_; rintro e w' ⟨rfl, rfl⟩)
        go_round
        case rel => exact ⟨k + 1, _, by omega, by go_num, rfl⟩
        case measure => simp [intOf]; omega
    · obtain rfl : k = n := by omega
      generalize zs.getD k 0 = z at *
      go_wp2_with (go_at_call 30; refine (rright_no _ _ n2).mono ?_; rintro e w' ⟨rfl, rfl⟩)
      go_ret2
      exact ⟨rfl, rfl⟩

theorem cell_lt {w : World} {p : Addr} {v : Value} (h : w.cell? p = some v) : p.block < w.heap.size := by
  unfold World.cell? at h
  split at h
  · rename_i hc
    exact (Array.getElem?_eq_some_iff.1 hc).1
  · cases h

/-- What a slice reads stays, whatever comes behind the blocks that are there. -/
theorem SlOf.below {w w' : World} {a : Option Addr} {len : Nat} {zs : List Int} (h : SlOf w a len zs) (hb : Below w.heap.size w w') : SlOf w' a len zs := by
  refine ⟨h.1, ?_⟩
  rcases h.2 with h | ⟨b, off, rfl, hc⟩
  · exact .inl h
  · exact .inr ⟨b, off, rfl, fun i hi => by rw [hb.cell (p := ⟨b, off + i, none⟩) (cell_lt (hc i hi))]; exact hc i hi⟩

theorem Try.info3 : (Try.prog.info? 3).map (fun i => (i.zero, i.size, i.bytes)) = some (some (.int .i64 0), 1, 8) := by kernel_rfl

/-- The cells of a slice, as append's law asks for them. -/
theorem SlOf.news {w : World} {b off len : Nat} {zs : List Int} (hz : zs.length = len) (hc : ∀ i, i < len → w.cell? ⟨b, off + i, none⟩ = some (.int .i64 (zs.getD i 0))) :
    ∀ j u, (zs.map (Value.int .i64))[j]? = some u → w.cell? ((⟨b, off, none⟩ : Addr).add j) = some u := by
  intro j u hu
  have hj : j < zs.length := by simpa using (List.getElem?_eq_some_iff.1 hu).1
  rw [Addr.add_lit, hc j (by omega)]
  have e : (zs.map (Value.int .i64))[j]? = some (.int .i64 (zs.getD j 0)) := by simp [List.getD, hj]
  rw [e] at hu
  exact hu

set_option maxHeartbeats 400000 in
theorem twin_any (a : Option Addr) (len cap : Nat) (zs : List Int) (w : World) (hlen : len ≤ 100000) (hs : SlOf w a len zs) (hn : a = none → len = 0 ∧ cap = 0) :
    Calls Try.prog 19 #[.slice a len cap] w fun e w' => ∃ v, e = .returned v ∧ w'.ownsRow w.heap.size 3 1 v len (zs.map (Value.int .i64)) ∧ Below w.heap.size w w' := by
  obtain ⟨i0, hi, hz0, hz1, hz2⟩ := info_parts Try.info3
  have hown := World.ownsRow_nil w w.heap.size 3 1
  obtain ⟨hz, hs⟩ := hs
  cases a with
  | none =>
    obtain ⟨rfl, rfl⟩ := hn rfl
    obtain rfl : zs = [] := List.eq_nil_of_length_eq_zero hz
    go_enter Try.func19, Try.ntmps19
    go_wp2_with (at_builtin; refine wpList_append_own_none rfl _ _ 29 rfl w.heap.size 3 i0 1 Try.underlying29 hi _ 0 [] rfl hown rfl ?_)
    go_ret
    exact ⟨_, rfl, hown, Below.refl _ _⟩
  | some x =>
    have hnews : ∀ j u, (zs.map (Value.int .i64))[j]? = some u → w.cell? (x.add j) = some u := by
      rcases hs with rfl | ⟨b, off, hx, hc⟩
      · obtain rfl : zs = [] := List.eq_nil_of_length_eq_zero hz
        intro j u hu; simp at hu
      · obtain rfl := Option.some.inj hx
        exact SlOf.news hz hc
    have h1 := ints_oneCell .i64 zs
    have hl : (zs.map (Value.int .i64)).length = len * 1 := by simpa using hz
    have HN := Lib.hid hnews
    have H1 := Lib.hid h1
    have HL := Lib.hid hl
    clear hnews h1 hl hs hz hn
    go_enter Try.func19, Try.ntmps19
    go_wp2_with (at_builtin; refine wpList_append_own _ rfl _ _ 29 rfl w.heap.size 3 i0 (.int .i64 0) 1 8 Try.underlying29 hi hz0 hz1 hz2 rfl (by decide) _ 0 [] rfl hown x len cap (zs.map (Value.int .i64)) rfl HL.out HN.out H1.out ?c3 ?c4 ?c5 ?_)
    case c3 => unfold maxLen; omega
    case c4 => omega
    case c5 => exact Nat.le_refl _
    intro v' w1 hown' hgrow _
    have HO := Lib.hid hown'
    have HG := Lib.hid hgrow
    clear hown' hgrow
    go_wp2_with fail
    go_ret
    exact ⟨_, rfl, HO.out, (Below.refl _ _).grown HG.out (Nat.le_refl _) (fun k h => by simp [Value.ownBlock] at h)⟩

/-- Two lists of the same ints are found to be the same. -/
theorem ints_same (a b : Option Addr) (len cap cap' : Nat) (zs : List Int) (w : World) (hlen : len ≤ 100000) (ha : SlOf w a len zs) (hb : SlOf w b len zs) :
    Calls Try.prog 22 #[.slice a len cap, .slice b len cap'] w fun e w' => e = .returned (.bool true) ∧ Below w.heap.size w w' ∧ w'.heap = w.heap := by
  have HA := Lib.hid ha
  have HB := Lib.hid hb
  clear ha hb
  go_enter Try.func22, Try.ntmps22
  go_wp2_with fail
  go_loopw [5] (fun i wr => ∃ k : Nat, k ≤ len ∧ i = .int .i64 k ∧ wr.heap = w.heap ∧ Below w.heap.size w wr) (fun i _ => len - (intOf i).toNat)
  case atStart => exact ⟨0, Nat.zero_le _, rfl, rfl, Below.refl _ _⟩
  case round =>
    obtain ⟨k, hk, rfl, hh, hbw⟩ := hrel
    by_cases hlt : k < len
    · obtain ⟨b0, o0, rfl, c0⟩ := (HA.out.below hbw).2.resolve_left (by omega)
      obtain ⟨b1, o1, rfl, c1⟩ := (HB.out.below hbw).2.resolve_left (by omega)
      have e0 := c0 k hlt
      have e1 := c1 k hlt
      have HH := Lib.hid hh
      have HBW := Lib.hid hbw
      clear c0 c1 hh hbw
      generalize zs.getD k 0 = z at *
      have hlt' : (k : Int) < (len : Int) := by omega
      go_wp2_with fail
      go_quiet (fail)
      go_wp2_with fail
      go_roundw
      case rel => exact ⟨k + 1, by omega, by go_num, HH.out, HBW.out.trans ⟨rfl, rfl, rfl, Nat.le_refl _, fun _ _ => rfl⟩⟩
      case measure => simp [intOf]; omega
    · have HH := Lib.hid hh
      have HBW := Lib.hid hbw
      clear hh hbw
      go_wp2_with fail
      go_ret
      exact ⟨rfl, HBW.out, HH.out⟩

end Go.Proofs.Ytmenifpibbjicaa.base
