/-
  The contract of hanselaw14.keeps: where it says yes, the two rows of ticks keep the drift between all moments.
-/
import Derived.Test.YtmenifpibbjicaaLeast2
import Derived.Test.YtmenifpibbjicaaLeasePlain
import Derived.IntWalk
namespace Go.Proofs.Ytmenifpibbjicaa.base
open Go.RowKit

/-- Ticks that rise, and stay below a bound. -/
def Rise (l : List Int) (b : Int) : Prop := (∀ i, i < l.length → 0 ≤ l.getD i 0 ∧ l.getD i 0 ≤ b) ∧ ∀ i j, i ≤ j → j < l.length → l.getD i 0 ≤ l.getD j 0

/-- Between two moments the drift is kept. -/
def Kept (A B : List Int) (drift : Int) (i k : Nat) : Prop := (A.getD k 0 - A.getD i 0 - 1) * (1048576 - drift) < (B.getD k 0 - B.getD i 0 + 1) * (1048576 + drift)

/-- What keeps answers. -/
def KeepsPost (A B : List Int) (drift : Int) (m : Nat) (w : World) (e : Ending) (w' : World) : Prop :=
  ∃ q : Bool, e = .returned (.bool q) ∧ (q = true → ∀ i k, i ≤ k → k < m → Kept A B drift i k) ∧ w'.heap = w.heap ∧ Below w.heap.size w w'

theorem mul_small (x y X Y : Int) (h0 : -X ≤ x) (h1 : x ≤ X) (h2 : 0 ≤ y) (h3 : y ≤ Y) : -(X * Y) ≤ x * y ∧ x * y ≤ X * Y := by
  have hX : 0 ≤ X := by omega
  constructor
  · have a1 : -x * y ≤ X * Y := Int.mul_le_mul (by omega) h3 h2 hX
    have a2 : -x * y = -(x * y) := Int.neg_mul _ _
    omega
  · exact Int.mul_le_mul h1 h3 h2 hX

/-- A cell that was there reads as it did. -/
theorem carried {w wr : World} {p : Addr} {v : Value} (h : w.cell? p = some v) (hb : Below w.heap.size w wr) : wr.cell? p = some v := by rw [hb.cell (cell_lt h)]; exact h

set_option maxHeartbeats 1000000 in
theorem keeps_any (a b : Option Addr) (m cap cap' : Nat) (A B : List Int) (drift : Int) (w : World) (hm : m ≤ 100000) (ha : SlOf w a m A) (hb : SlOf w b m B)
    (hA : Rise A 2147483648) (hB : Rise B 2147483648) (d0 : 0 ≤ drift) (d1 : drift ≤ 262144) :
    Calls Try.prog 26 #[.slice a m cap, .slice b m cap', .int .i64 drift] w (KeepsPost A B drift m w) := by
  have HA := Lib.hid ha
  have HB := Lib.hid hb
  have RA := Lib.hid hA.1
  have RB := Lib.hid hB.1
  clear ha hb hA hB
  go_enter Try.func26, Try.ntmps26
  go_wp2_with fail
  go_loopw [7] (fun i wr => ∃ i' : Nat, i' ≤ m ∧ i = .int .i64 i' ∧ Hid (∀ j k, j < i' → j ≤ k → k < m → Kept A B drift j k) ∧ Hid (wr.heap = w.heap) ∧ Hid (Below w.heap.size w wr)) (fun i _ => m - (intOf i).toNat)
  case atStart => exact ⟨0, Nat.zero_le _, rfl, fun j k h => absurd h (by omega), rfl, Below.refl _ _⟩
  case round =>
    obtain ⟨i, hi, rfl, hP, hh, hbw⟩ := hrel
    obtain ⟨wo, rfl⟩ : ∃ wo : World, wo = wr := ⟨_, rfl⟩
    by_cases hlt : i < m
    · have hlt' : (i : Int) < (m : Int) := by omega
      obtain ⟨b0, o0, rfl, c0⟩ := HA.out.2.resolve_left (by omega)
      obtain ⟨b1, o1, rfl, c1⟩ := HB.out.2.resolve_left (by omega)
      have C0 := Lib.hid c0
      have C1 := Lib.hid c1
      clear c0 c1
      go_wp2_with fail
      go_loopw [8] (fun k wr => ∃ k' : Nat, i ≤ k' ∧ k' ≤ m ∧ k = .int .i64 k' ∧ Hid (∀ k, i ≤ k → k < k' → Kept A B drift i k) ∧ Hid (wr.heap = w.heap) ∧ Hid (Below w.heap.size w wr)) (fun k _ => m - (intOf k).toNat)
      case atStart => exact ⟨i, Nat.le_refl _, hi, rfl, fun k h h' => absurd h' (by omega), hh, hbw⟩
      case round =>
        obtain ⟨k, hk0, hk, rfl, hQ, hh', hbw'⟩ := hrel
        by_cases hkl : k < m
        · have hkl' : (k : Int) < (m : Int) := by omega
          have e0 := carried (C0.out k hkl) hbw'.out
          have e1 := carried (C0.out i hlt) hbw'.out
          have e2 := carried (C1.out k hkl) hbw'.out
          have e3 := carried (C1.out i hlt) hbw'.out
          obtain ⟨x0, x1⟩ := RA.out k (by have := HA.out.1; omega)
          obtain ⟨y0, y1⟩ := RA.out i (by have := HA.out.1; omega)
          obtain ⟨u0, u1⟩ := RB.out k (by have := HB.out.1; omega)
          obtain ⟨v0, v1⟩ := RB.out i (by have := HB.out.1; omega)
          have hkept : Hid ((A.getD k 0 - A.getD i 0 - 1) * (1048576 - drift) < (B.getD k 0 - B.getD i 0 + 1) * (1048576 + drift) → Kept A B drift i k) := fun h => h
          generalize A.getD k 0 = x at *
          generalize A.getD i 0 = y at *
          generalize B.getD k 0 = u at *
          generalize B.getD i 0 = v at *
          obtain ⟨p0, p1⟩ := mul_small (x - y - 1) (1048576 - drift) 2147483649 1310720 (by omega) (by omega) (by omega) (by omega)
          obtain ⟨q0, q1⟩ := mul_small (u - v + 1) (1048576 + drift) 2147483649 1310720 (by omega) (by omega) (by omega) (by omega)
          by_cases hq : (x - y - 1) * (1048576 - drift) < (u - v + 1) * (1048576 + drift)
          · have W1 : IntKind.i64.wrap (x - y) = x - y := IntWalk.i64_in _ (by omega)
            have W2 : IntKind.i64.wrap (x - y - 1) = x - y - 1 := IntWalk.i64_in _ (by omega)
            have W3 : IntKind.i64.wrap (1048576 - drift) = 1048576 - drift := IntWalk.i64_in _ (by omega)
            have W4 : IntKind.i64.wrap ((x - y - 1) * (1048576 - drift)) = (x - y - 1) * (1048576 - drift) := IntWalk.i64_in _ (by omega)
            have W5 : IntKind.i64.wrap (u - v) = u - v := IntWalk.i64_in _ (by omega)
            have W6 : IntKind.i64.wrap (u - v + 1) = u - v + 1 := IntWalk.i64_in _ (by omega)
            have W7 : IntKind.i64.wrap (1048576 + drift) = 1048576 + drift := IntWalk.i64_in _ (by omega)
            have W8 : IntKind.i64.wrap ((u - v + 1) * (1048576 + drift)) = (u - v + 1) * (1048576 + drift) := IntWalk.i64_in _ (by omega)
            have HQ := Lib.hid hq
            go_wp2_with fail
            go_quiet (fail)
            clear W1 W2 W3 W4 W5 W6 W7 W8
            go_wp2_with fail
            go_roundw
            case rel =>
              refine ⟨k + 1, by omega, by omega, by go_num, ?_, hh'.out, hbw'.out.trans ⟨rfl, rfl, rfl, Nat.le_refl _, fun _ _ => rfl⟩⟩
              intro k2 g1 g2
              by_cases g : k2 = k
              · rw [g]; exact hkept.out HQ.out
              · exact hQ.out k2 g1 (by omega)
            case measure => simp [intOf]; omega
          · have hq' : (u - v + 1) * (1048576 + drift) ≤ (x - y - 1) * (1048576 - drift) := by omega
            clear hq
            have W1 : IntKind.i64.wrap (x - y) = x - y := IntWalk.i64_in _ (by omega)
            have W2 : IntKind.i64.wrap (x - y - 1) = x - y - 1 := IntWalk.i64_in _ (by omega)
            have W3 : IntKind.i64.wrap (1048576 - drift) = 1048576 - drift := IntWalk.i64_in _ (by omega)
            have W4 : IntKind.i64.wrap ((x - y - 1) * (1048576 - drift)) = (x - y - 1) * (1048576 - drift) := IntWalk.i64_in _ (by omega)
            have W5 : IntKind.i64.wrap (u - v) = u - v := IntWalk.i64_in _ (by omega)
            have W6 : IntKind.i64.wrap (u - v + 1) = u - v + 1 := IntWalk.i64_in _ (by omega)
            have W7 : IntKind.i64.wrap (1048576 + drift) = 1048576 + drift := IntWalk.i64_in _ (by omega)
            have W8 : IntKind.i64.wrap ((u - v + 1) * (1048576 + drift)) = (u - v + 1) * (1048576 + drift) := IntWalk.i64_in _ (by omega)
            go_wp2_with fail
            go_quiet (fail)
            clear W1 W2 W3 W4 W5 W6 W7 W8
            go_wp2_with fail
            go_ret
            exact ⟨false, rfl, (fun h => by cases h), hh'.out, hbw'.out.trans ⟨rfl, rfl, rfl, Nat.le_refl _, fun _ _ => rfl⟩⟩
        · go_wp2_with fail
          go_roundw
          case rel =>
            refine ⟨i + 1, by omega, by go_num, ?_, hh', hbw'⟩
            intro j k2 g1 g2 g3
            by_cases g : j = i
            · rw [g]; exact hQ.out k2 (by omega) (by omega)
            · exact hP.out j k2 (by omega) g2 g3
          case measure => simp [intOf]; omega
    · go_wp2_with fail
      go_ret
      exact ⟨true, rfl, fun _ i' k' g1 g2 => hP.out i' k' (by omega) g1 g2, hh.out, hbw.out⟩

end Go.Proofs.Ytmenifpibbjicaa.base
