/-
  The contracts of tick.Least, of the page's Least, of hansekeep.TwinInts and of hansekeep.Ints: what a call over a list of ints returns, and that no memory that was there is turned.
-/
import Derived.Test.YtmenifpibbjicaaRef
import Derived.Lib.Hide
namespace Go.Proofs.Ytmenifpibbjicaa.base
open Go.RowKit

/-- Is every element a tick? -/
def allRight (l : List Int) : Bool := l.all fun z => decide (0 ≤ z ∧ z ≤ 1099511627776)
/-- The least of a list, at most Forever. -/
def leastF (l : List Int) : Int := l.foldl (fun a z => if a ≤ z then a else z) 1099511627776

theorem leastF_snoc (l : List Int) (z : Int) : leastF (l ++ [z]) = if leastF l ≤ z then leastF l else z := by
  unfold leastF; rw [List.foldl_append]; rfl

theorem allRight_snoc (l : List Int) (z : Int) : allRight (l ++ [z]) = (allRight l && decide (0 ≤ z ∧ z ≤ 1099511627776)) := by
  unfold allRight; simp [List.all_append]

theorem take_snoc (zs : List Int) (k : Nat) (h : k < zs.length) : zs.take (k + 1) = zs.take k ++ [zs.getD k 0] := by
  rw [List.take_succ_eq_append_getElem h]
  simp [List.getD, h]

theorem allRight_at {zs : List Int} (h : allRight zs = true) (k : Nat) (hk : k < zs.length) : 0 ≤ zs.getD k 0 ∧ zs.getD k 0 ≤ 1099511627776 := by
  unfold allRight at h
  rw [List.all_eq_true] at h
  have := h (zs.getD k 0) (by simp [List.getD, hk])
  simpa using this

theorem allRight_take {zs : List Int} (h : allRight zs = true) (k : Nat) : allRight (zs.take k) = true := by
  unfold allRight at h ⊢
  rw [List.all_eq_true] at h ⊢
  exact fun z hz => h z (List.mem_of_mem_take hz)

theorem leastF_bd {l : List Int} (h : allRight l = true) : 0 ≤ leastF l ∧ leastF l ≤ 1099511627776 := by
  have key : ∀ (l : List Int) (a : Int), 0 ≤ a → a ≤ 1099511627776 → allRight l = true → 0 ≤ l.foldl (fun a z => if a ≤ z then a else z) a ∧ l.foldl (fun a z => if a ≤ z then a else z) a ≤ 1099511627776 := by
    intro l
    induction l with
    | nil => intro a h0 h1 _; exact ⟨h0, h1⟩
    | cons z l ih =>
      intro a h0 h1 hl
      have hz : 0 ≤ z ∧ z ≤ 1099511627776 := by simpa [allRight] using (List.all_eq_true.1 hl) z (by simp)
      have hl' : allRight l = true := by
        unfold allRight at hl ⊢
        simp only [List.all_cons, Bool.and_eq_true] at hl
        exact hl.2
      rw [List.foldl_cons]
      split
      · exact ih a h0 h1 hl'
      · exact ih z hz.1 hz.2 hl'
  exact key l _ (by omega) (by omega) h

/-- The cells of a slice of ints: its elements are zs. -/
def SlOf (w : World) (a : Option Addr) (len : Nat) (zs : List Int) : Prop :=
  zs.length = len ∧ (len = 0 ∨ ∃ b off, a = some ⟨b, off, none⟩ ∧ ∀ i, i < len → w.cell? ⟨b, off + i, none⟩ = some (.int .i64 (zs.getD i 0)))

set_option maxHeartbeats 400000 in
theorem least_ok (a : Option Addr) (len cap : Nat) (zs : List Int) (w : World) (hlen : len ≤ 100000) (hs : SlOf w a len zs) (hr : allRight zs = true) :
    Calls Try.prog 20 #[.slice a len cap] w fun e w' => e = .returned (.tuple #[.int .i64 (leastF zs), .int .i64 0]) ∧ w = w' := by
  obtain ⟨hz, hs⟩ := hs
  go_enter Try.func20, Try.ntmps20
  go_wp2_with fail
  go_loop [4, 9] (fun t i => ∃ k : Nat, k ≤ len ∧ i = .int .i64 k ∧ t = .int .i64 (leastF (zs.take k))) (fun _ i => len - (intOf i).toNat)
  case atStart => exact ⟨0, Nat.zero_le _, rfl, rfl⟩
  case round =>
    obtain ⟨k, hk, rfl, rfl⟩ := hrel
    obtain ⟨m0, m1⟩ := leastF_bd (allRight_take hr k)
    by_cases hlt : k < len
    · obtain ⟨b, off, rfl, hc⟩ := hs.resolve_left (by omega)
      have hcell := hc k hlt
      obtain ⟨z0, z1⟩ := allRight_at hr k (by omega)
      have es := leastF_snoc (zs.take k) (zs.getD k 0)
      rw [← take_snoc zs k (by omega)] at es
      generalize zs.getD k 0 = z at *
      have ES := Lib.hid es
      clear es hc hs hz
      by_cases hm : leastF (zs.take k) ≤ z
      · go_wp2_with (go_at_call 15; refine (right_yes _ _ (by omega) (by omega)).mono ?_; rintro e w' ⟨rfl, rfl⟩)
        go_round
        case rel => exact ⟨k + 1, by omega, by go_num, by rw [ES.out, if_pos hm]⟩
        case measure => simp [intOf]; omega
      · go_wp2_with (go_at_call 15; refine (right_yes _ _ (by omega) (by omega)).mono ?_; rintro e w' ⟨rfl, rfl⟩)
        go_round
        case rel => exact ⟨k + 1, by omega, by go_num, by rw [ES.out, if_neg (by omega)]⟩
        case measure => simp [intOf]; omega
    · have HZ := Lib.hid hz
      clear hz
      go_wp2_with fail
      go_ret2
      exact ⟨by rw [List.take_of_length_le (by have := HZ.out; omega)]; rfl, rfl⟩

/-- The first place at which a list holds no tick. -/
theorem not_allRight {zs : List Int} (h : allRight zs = false) : ∃ k, k < zs.length ∧ (zs.getD k 0 < 0 ∨ 1099511627776 < zs.getD k 0) ∧ allRight (zs.take k) = true := by
  have key : ∀ n, n ≤ zs.length → allRight (zs.take n) = true ∨ ∃ k, k < n ∧ (zs.getD k 0 < 0 ∨ 1099511627776 < zs.getD k 0) ∧ allRight (zs.take k) = true := by
    intro n
    induction n with
    | zero => intro _; exact .inl rfl
    | succ n ih =>
      intro hn
      rcases ih (by omega) with g | ⟨k, k1, k2, k3⟩
      · by_cases hz : 0 ≤ zs.getD n 0 ∧ zs.getD n 0 ≤ 1099511627776
        · left; rw [take_snoc zs n (by omega), allRight_snoc, g]; simpa using hz
        · right; exact ⟨n, by omega, by omega, g⟩
      · right; exact ⟨k, by omega, k2, k3⟩
  rcases key zs.length (Nat.le_refl _) with g | ⟨k, k1, k2, k3⟩
  · rw [List.take_of_length_le (Nat.le_refl _)] at g; rw [g] at h; cases h
  · exact ⟨k, k1, k2, k3⟩

set_option maxHeartbeats 400000 in
theorem least_bad (a : Option Addr) (len cap : Nat) (zs : List Int) (w : World) (hlen : len ≤ 100000) (hs : SlOf w a len zs) (hr : allRight zs = false) :
    Calls Try.prog 20 #[.slice a len cap] w fun e w' => e = .returned (.tuple #[.int .i64 0, .int .i64 1]) ∧ w = w' := by
  obtain ⟨hz, hs⟩ := hs
  obtain ⟨n, n1, n2, n3⟩ := not_allRight hr
  obtain ⟨b, off, rfl, hc⟩ := hs.resolve_left (by omega)
  clear hs hr
  have HZ := Lib.hid hz
  have n1' : n < len := by omega
  clear hz n1
  have HC := Lib.hid hc
  clear hc
  have N3 := Lib.hid n3
  clear n3
  go_enter Try.func20, Try.ntmps20
  go_wp2_with fail
  go_loop [4, 9] (fun t i => ∃ (k : Nat) (x : Int), k ≤ n ∧ i = .int .i64 k ∧ t = .int .i64 x) (fun _ i => len - (intOf i).toNat)
  case atStart => exact ⟨0, _, Nat.zero_le _, rfl, rfl⟩
  case round =>
    obtain ⟨k, x, hk, rfl, rfl⟩ := hrel
    have hcell := HC.out k (by omega)
    by_cases hlt : k < n
    · have hb : 0 ≤ zs.getD k 0 ∧ zs.getD k 0 ≤ 1099511627776 := by
        have := allRight_at N3.out k (by rw [List.length_take, HZ.out]; omega)
        rwa [show (zs.take n).getD k 0 = zs.getD k 0 from by simp [List.getD, hlt]] at this
      obtain ⟨z0, z1⟩ := hb
      generalize zs.getD k 0 = z at *
      have hkl : k < len := by omega
      by_cases hm : x ≤ z
      · go_wp2_with (go_at_call 15; refine (right_yes _ _ (by omega) (by omega)).mono ?_; rintro e w' ⟨rfl, rfl⟩)
        go_round
        case rel => exact ⟨k + 1, _, by omega, by go_num, rfl⟩
        case measure => simp [intOf]; omega
      · go_wp2_with (go_at_call 15; refine (right_yes _ _ (by omega) (by omega)).mono ?_; rintro e w' ⟨rfl, rfl⟩)
        go_round
        case rel => exact ⟨k + 1, _, by omega, by go_num, rfl⟩
        case measure => simp [intOf]; omega
    · obtain rfl : k = n := by omega
      generalize zs.getD k 0 = z at *
      go_wp2_with (go_at_call 15; refine (right_no _ _ n2).mono ?_; rintro e w' ⟨rfl, rfl⟩)
      go_ret2
      exact ⟨rfl, rfl⟩

end Go.Proofs.Ytmenifpibbjicaa.base
