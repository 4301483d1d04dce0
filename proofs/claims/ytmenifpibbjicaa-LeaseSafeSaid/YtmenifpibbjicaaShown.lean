/-
  The contract of hanselaw14.shown: what two clocks show at each moment rises, and stays small; or it is said that they are no clocks.
-/
import Derived.Test.YtmenifpibbjicaaClocks
import Derived.RegionTactic
import Derived.BigRegion
import Derived.Deep.DeepCutAuto
import Derived.Deep.RegionLaw
import Derived.Deep.AppendLies
namespace Go.Proofs.Ytmenifpibbjicaa.base
open Go.RowKit

/-- What shown answers. -/
def ShownPost (drift : Int) (w : World) (e : Ending) (w' : World) : Prop :=
  Below w.heap.size w w' ∧ (e = .returned (.tuple #[.slice none 0 0, .slice none 0 0, .bool false]) ∨
    ∃ (m : Nat) (a a' : Option Addr) (c c' : Nat) (hs gs : List Int), e = .returned (.tuple #[.slice a m c, .slice a' m c', .bool true]) ∧ 1 ≤ m ∧ m ≤ 201 ∧ SlOf w' a m hs ∧ SlOf w' a' m gs ∧
      Rise hs 2147483648 ∧ Rise gs 2147483648 ∧ 0 ≤ drift ∧ drift ≤ 262144)

theorem shown_bad (drift : Int) (w w' : World) (h : Below w.heap.size w w') : ShownPost drift w (.returned (.tuple #[.slice none 0 0, .slice none 0 0, .bool false])) w' := ⟨h, .inl rfl⟩

set_option maxRecDepth 100000 in
set_option maxHeartbeats 1000000 in
theorem shown_early (H G : Int) (a0 a1 : Option Addr) (n n' c0 c1 : Nat) (drift : Int) (w : World)
    (hbad : n = 0 ∨ 200 < n ∨ n ≠ n' ∨ drift < 0 ∨ 262144 < drift ∨ H < 0 ∨ G < 0 ∨ 1073741824 < H ∨ 1073741824 < G) :
    Calls Try.prog 25 #[.agg #[.int .i64 H, .int .i64 G, .slice a0 n c0, .slice a1 n' c1], .int .i64 drift] w (ShownPost drift w) := by
  by_cases g1 : n = 0
  · subst g1
    clear hbad
    go_enter Try.func25, Try.ntmps25
    go_wp2_with fail
    go_ret3
    exact shown_bad _ _ _ ((Below.refl _ _).alloc (Nat.le_refl _) _)
  have f1 : ((n : Int) == 0) = false := by simp; omega
  by_cases g2 : 200 < n
  · have g2' : (200 : Int) < (n : Int) := by omega
    clear hbad
    go_enter Try.func25, Try.ntmps25
    go_wp2_with fail
    go_ret3
    exact shown_bad _ _ _ ((Below.refl _ _).alloc (Nat.le_refl _) _)
  have f2 : decide ((200 : Int) < (n : Int)) = false := by simp; omega
  by_cases g3 : n = n'
  · subst g3
    have hbad' : drift < 0 ∨ 262144 < drift ∨ H < 0 ∨ G < 0 ∨ 1073741824 < H ∨ 1073741824 < G := by omega
    clear hbad
    by_cases q0 : drift < 0
    · clear hbad'
      go_enter Try.func25, Try.ntmps25
      go_wp2_with fail
      go_ret3
      exact shown_bad _ _ _ ((Below.refl _ _).alloc (Nat.le_refl _) _)
    by_cases q1 : 262144 < drift
    · clear hbad'
      go_enter Try.func25, Try.ntmps25
      go_wp2_with fail
      go_ret3
      exact shown_bad _ _ _ ((Below.refl _ _).alloc (Nat.le_refl _) _)
    by_cases q2 : H < 0
    · clear hbad'
      go_enter Try.func25, Try.ntmps25
      go_wp2_with fail
      go_ret3
      exact shown_bad _ _ _ ((Below.refl _ _).alloc (Nat.le_refl _) _)
    by_cases q3 : G < 0
    · clear hbad'
      go_enter Try.func25, Try.ntmps25
      go_wp2_with fail
      go_ret3
      exact shown_bad _ _ _ ((Below.refl _ _).alloc (Nat.le_refl _) _)
    by_cases q4 : 1073741824 < H
    · clear hbad'
      go_enter Try.func25, Try.ntmps25
      go_wp2_with fail
      go_ret3
      exact shown_bad _ _ _ ((Below.refl _ _).alloc (Nat.le_refl _) _)
    have q5 : 1073741824 < G := by omega
    clear hbad'
    go_enter Try.func25, Try.ntmps25
    go_wp2_with fail
    go_ret3
    exact shown_bad _ _ _ ((Below.refl _ _).alloc (Nat.le_refl _) _)
  · have f3 : ((n : Int) != (n' : Int)) = true := by rw [bne_iff_ne]; omega
    clear hbad g3
    go_enter Try.func25, Try.ntmps25
    go_wp2_with fail
    go_ret3
    exact shown_bad _ _ _ ((Below.refl _ _).alloc (Nat.le_refl _) _)

/-- In every round: what the two lists hold so far. -/
def Gone (b : Nat) (k : Nat) (v v' : Value) (wr : World) : Prop :=
  ∃ (p q c c' : Nat) (hs gs : List Int), v = .slice (some ⟨p, 0, none⟩) (k + 1) c ∧ v' = .slice (some ⟨q, 0, none⟩) (k + 1) c' ∧ p ≠ q ∧
    wr.ownsRow b 3 1 v (k + 1) (hs.map (Value.int .i64)) ∧ wr.ownsRow b 3 1 v' (k + 1) (gs.map (Value.int .i64)) ∧
    Rise hs (1073741824 + 1048576 * k) ∧ Rise gs (1073741824 + 1048576 * k)

theorem rise_one (x : Int) (h0 : 0 ≤ x) (h1 : x ≤ 1073741824) : Rise [x] (1073741824 + 1048576 * (0 : Nat)) := by
  refine ⟨fun i hi => ?_, fun i j hij hj => ?_⟩
  · obtain rfl : i = 0 := by simpa using hi
    simp [List.getD]; omega
  · have hj' : j = 0 := by simpa using hj
    obtain rfl : i = 0 := by omega
    rw [hj']; omega

theorem rise_snoc {l : List Int} {k : Nat} {d : Int} (h : Rise l (1073741824 + 1048576 * k)) (hl : l.length = k + 1) (d0 : 0 ≤ d) (d1 : d ≤ 1048576) :
    Rise (l ++ [l.getD k 0 + d]) (1073741824 + 1048576 * (k + 1 : Nat)) := by
  obtain ⟨hb, hm⟩ := h
  have at1 : ∀ i, i < k + 1 → (l ++ [l.getD k 0 + d]).getD i 0 = l.getD i 0 := fun i hi => by
    simp [List.getD, List.getElem?_append, show i < l.length by omega]
  have at2 : (l ++ [l.getD k 0 + d]).getD (k + 1) 0 = l.getD k 0 + d := by
    simp [List.getD, hl]
  obtain ⟨b0, b1⟩ := hb k (by omega)
  constructor
  · intro i hi
    rw [List.length_append, hl] at hi
    by_cases h : i = k + 1
    · rw [h, at2]; omega
    · rw [at1 i (by simp at hi; omega)]
      obtain ⟨c0, c1⟩ := hb i (by simp at hi; omega)
      omega
  · intro i j hij hj
    rw [List.length_append, hl] at hj
    simp at hj
    by_cases h : j = k + 1
    · rw [h, at2]
      by_cases h' : i = k + 1
      · rw [h', at2]; omega
      · rw [at1 i (by omega)]
        have := hm i k (by omega) (by omega)
        omega
    · rw [at1 i (by omega), at1 j (by omega)]
      exact hm i j hij (by omega)

theorem Rise.mono {l : List Int} {b b' : Int} (h : Rise l b) (hb : b ≤ b') : Rise l b' :=
  ⟨fun i hi => ⟨(h.1 i hi).1, Int.le_trans (h.1 i hi).2 hb⟩, h.2⟩

theorem slOf_row {w : World} {b g n c : Nat} {zs : List Int} (h : w.ownsRow b 3 1 (.slice (some ⟨g, 0, none⟩) n c) n (zs.map (Value.int .i64))) : SlOf w (some ⟨g, 0, none⟩) n zs := by
  have hl : zs.length = n := by have := h.1; simpa using this
  refine ⟨hl, .inr ⟨g, 0, rfl, fun i hi => ?_⟩⟩
  rw [Nat.zero_add, h.cellAt i (by omega)]
  simp [List.getD, show i < zs.length by omega]

/-- A new block of one int, behind a draw. -/
theorem new_cell (w : World) (x : Int) : ∀ j u, ([Value.int .i64 x] : List Value)[j]? = some u → ((w.alloc (.cells #[.int .i64 x] 3)).drew).cell? ((⟨w.heap.size, 0, none⟩ : Addr).add j) = some u := by
  intro j u hj
  match j, hj with
  | 0, hj =>
    simp at hj; subst hj
    show ((w.alloc (.cells #[.int .i64 x] 3))).cell? ⟨w.heap.size, 0, none⟩ = some (.int .i64 x)
    rw [World.cell?_alloc_at _ _ _ _ rfl]; rfl

/-- What an append onto the one row leaves of the other. -/
theorem gone_next {b k k' p q c c' g cap : Nat} {O : Obj} {wo w1 : World} {hs gs : List Int} {y : Int} (hpq : p ≠ q)
    (ho' : wo.ownsRow b 3 1 (.slice (some ⟨q, 0, none⟩) k' c') k' (gs.map (Value.int .i64)))
    (hown1 : w1.ownsRow b 3 1 (.slice (some ⟨g, 0, none⟩) (k + 1 + 1) cap) (k + 1 + 1) (hs.map (Value.int .i64) ++ [.int .i64 y]))
    (hgrow1 : (wo.alloc O).drew.grownBy w1 (Value.slice (some ⟨p, 0, none⟩) (k + 1) c).ownBlock)
    (hat1 : (Value.slice (some ⟨p, 0, none⟩) (k + 1) c).ownBlock = some g ∨ g = (wo.alloc O).drew.heap.size) :
    g ≠ q ∧ w1.ownsRow b 3 1 (.slice (some ⟨g, 0, none⟩) (k + 1 + 1) cap) (k + 1 + 1) ((hs ++ [y]).map (Value.int .i64)) ∧
      w1.ownsRow b 3 1 (.slice (some ⟨q, 0, none⟩) k' c') k' (gs.map (Value.int .i64)) := by
  have hq : q < wo.heap.size := (ho'.lt q rfl).2
  refine ⟨?_, by simpa using hown1, ((ho'.alloc O).drew).kept hgrow1 (.inr ?_)⟩
  · rcases hat1 with h | h
    · have : p = g := by simpa [Value.ownBlock] using h
      omega
    · have : (wo.alloc O).drew.heap.size = wo.heap.size + 1 := World.size_alloc _ _
      omega
  · simp only [Value.ownBlock, ne_eq, Option.some.injEq]
    exact fun h => hpq h.symm

theorem below_next {b k p c : Nat} {O : Obj} {w0 wo w1 : World} (hB : Below b w0 wo) {xs : List Value} (ho : wo.ownsRow b 3 1 (.slice (some ⟨p, 0, none⟩) (k + 1) c) (k + 1) xs)
    (hb : b ≤ wo.heap.size) (hgrow1 : (wo.alloc O).drew.grownBy w1 (Value.slice (some ⟨p, 0, none⟩) (k + 1) c).ownBlock) : Below b w0 w1 :=
  ((hB.alloc hb O).drew).grown hgrow1 (by show b ≤ (wo.alloc O).heap.size; rw [World.size_alloc]; omega) (fun j hj => (ho.lt j hj).1)

theorem heap_one (w : World) (A B C : Obj) : (((w.alloc A).alloc B).alloc C).drew.heap[w.heap.size + 1]? = some B := by
  show (((w.heap.push A).push B).push C)[w.heap.size + 1]? = some B
  rw [Array.getElem?_push, if_neg (by simp), Array.getElem?_push, if_pos (by simp)]

theorem heap_two (w : World) (A B C : Obj) : (((w.alloc A).alloc B).alloc C).drew.heap[w.heap.size + 1 + 1]? = some C := by
  show (((w.heap.push A).push B).push C)[w.heap.size + 1 + 1]? = some C
  rw [Array.getElem?_push, if_pos (by simp)]

theorem below_three (w : World) (A B C : Obj) : Below (w.heap.size + 1) (w.alloc A) (((w.alloc A).alloc B).alloc C).drew :=
  (((Below.refl _ _).alloc (by simp) B).alloc (by simp) C).drew

theorem owns_one (w : World) (b p : Nat) (x : Int) (hb : b ≤ p) (hp : w.heap[p]? = some (.cells #[.int .i64 x] 3 (0, 0))) :
    w.ownsRow b 3 1 (.slice (some ⟨p, 0, none⟩) 1 1) 1 ([x].map (Value.int .i64)) :=
  ⟨rfl, .inr ⟨p, 1, _, rfl, hb, hp, Nat.le_refl _, by unfold maxLen; omega, rfl, rfl⟩⟩

set_option maxRecDepth 100000 in
set_option maxHeartbeats 2000000 in
theorem shown_good (H G : Int) (a0 a1 : Option Addr) (n c0 c1 : Nat) (drift : Int) (zh zg : List Int) (w : World) (s0 : SlOf w a0 n zh) (s1 : SlOf w a1 n zg)
    (n0 : 0 < n) (n1 : n ≤ 200) (d0 : 0 ≤ drift) (d1 : drift ≤ 262144) (h0 : 0 ≤ H) (h1 : H ≤ 1073741824) (g0 : 0 ≤ G) (g1 : G ≤ 1073741824) :
    Calls Try.prog 25 #[.agg #[.int .i64 H, .int .i64 G, .slice a0 n c0, .slice a1 n c1], .int .i64 drift] w (ShownPost drift w) := by
  have f1 : ((n : Int) == 0) = false := by simp; omega
  have f2 : decide ((200 : Int) < (n : Int)) = false := by simp; omega
  have f3 : decide (drift < 0) = false := by simp; omega
  have f4 : decide (262144 < drift) = false := by simp; omega
  have f5 : decide (H < 0) = false := by simp; omega
  have f6 : decide (G < 0) = false := by simp; omega
  have f7 : decide (1073741824 < H) = false := by simp; omega
  have f8 : decide (1073741824 < G) = false := by simp; omega
  have S0 := Lib.hid s0
  have S1 := Lib.hid s1
  clear s0 s1
  go_enter Try.func25, Try.ntmps25
  go_wp2_with fail
  clear f1 f2 f3 f4 f5 f6 f7 f8
  go_cut [8, 9] from 55 to 60 (fun v v' wx => Gone (w.heap.size + 1) 0 v v' wx ∧ Below (w.heap.size + 1) (w.alloc (.cells #[.int .i64 H, .int .i64 G, .slice a0 n c0, .slice a1 n c1] 38)) wx)
  case first =>
    go_region
    all_goals (go_wp2_with fail)
    all_goals go_meet
    · refine ⟨⟨w.heap.size + 1, w.heap.size + 1 + 1, 1, 1, [H], [G], rfl, rfl, by omega, owns_one _ _ _ _ (Nat.le_refl _) ?_, owns_one _ _ _ _ (by omega) ?_, rise_one _ h0 h1, rise_one _ g0 g1⟩, ?_⟩
      · exact heap_one _ _ _ _
      · exact heap_two _ _ _ _
      · exact below_three _ _ _ _
    · refine ⟨⟨w.heap.size + 1 + 1, w.heap.size + 1, 1, 1, [H], [G], rfl, rfl, by omega, owns_one _ _ _ _ (by omega) ?_, owns_one _ _ _ _ (Nat.le_refl _) ?_, rise_one _ h0 h1, rise_one _ g0 g1⟩, ?_⟩
      · exact heap_two _ _ _ _
      · exact heap_one _ _ _ _
      · exact below_three _ _ _ _
  case rest =>
    obtain ⟨hG, hB⟩ := hcut
    obtain ⟨i0, hi, hz0, hz1, hz2⟩ := info_parts Try.info3
    have HG := Lib.hid hG
    have HB := Lib.hid hB
    clear hG hB
    go_wp2_with fail
    go_loopw [8, 9, 10] (fun v v' i wr => ∃ k : Nat, k ≤ n ∧ i = .int .i64 k ∧ Hid (Gone (w.heap.size + 1) k v v' wr) ∧ Hid (Below (w.heap.size + 1) (w.alloc (.cells #[.int .i64 H, .int .i64 G, .slice a0 n c0, .slice a1 n c1] 38)) wr)) (fun _ _ i _ => n - (intOf i).toNat)
    case atStart => exact ⟨0, Nat.zero_le _, rfl, HG.out, HB.out⟩
    case round =>
      obtain ⟨k, hk, rfl, hG, hB⟩ := hrel
      clear HG HB
      obtain ⟨wo, rfl⟩ : ∃ wo : World, wo = wr := ⟨_, rfl⟩
      obtain ⟨p, q, c, c', hs, gs, rfl, rfl, hpq, ho, ho', hr, hr'⟩ := hG.out
      clear hG
      have hbw : Below w.heap.size w wo := ((Below.refl _ _).alloc (Nat.le_refl _) _).trans (hB.out.mono (by omega))
      have hsz : w.heap.size + 1 ≤ wo.heap.size := by have := hB.out.size; simpa using this
      have HBW := Lib.hid hbw
      have HO := Lib.hid ho
      have HO' := Lib.hid ho'
      have HR := Lib.hid hr
      have HR' := Lib.hid hr'
      clear hbw ho ho' hr hr'
      by_cases hlt : k < n
      · have cH : wo.cell? ⟨w.heap.size, 2, none⟩ = some (.slice a0 n c0) := by
          rw [hB.out.cell (p := ⟨w.heap.size, 2, none⟩) (Nat.lt_succ_self _), World.cell?_alloc_at _ _ _ _ rfl]; rfl
        have cG : wo.cell? ⟨w.heap.size, 3, none⟩ = some (.slice a1 n c1) := by
          rw [hB.out.cell (p := ⟨w.heap.size, 3, none⟩) (Nat.lt_succ_self _), World.cell?_alloc_at _ _ _ _ rfl]; rfl
        obtain ⟨bh, oh, rfl, ch⟩ := (S0.out.below HBW.out).2.resolve_left (by omega)
        obtain ⟨bg, og, rfl, cg⟩ := (S1.out.below HBW.out).2.resolve_left (by omega)
        have eh := ch k hlt
        have eg := cg k hlt
        have hdg : ∀ wx, Below w.heap.size w wx → wx.cell? ⟨bg, og + k, none⟩ = some (.int .i64 (zg.getD k 0)) := fun wx hb => by
          obtain ⟨b', o', hbo, cg'⟩ := (S1.out.below hb).2.resolve_left (by omega)
          have e : (⟨bg, og, none⟩ : Addr) = ⟨b', o', none⟩ := Option.some.inj hbo
          cases e
          exact cg' k hlt
        have DG := Lib.hid hdg
        clear hdg
        clear ch cg
        generalize zh.getD k 0 = dh at *
        generalize zg.getD k 0 = dg at *
        have hlt' : (k : Int) < (n : Int) := by omega
        by_cases q1 : dh < 0
        · go_wp2_with fail
          go_ret3
          exact shown_bad _ _ _ HBW.out
        by_cases q2 : dg < 0
        · go_wp2_with fail
          go_ret3
          exact shown_bad _ _ _ HBW.out
        by_cases q3 : 1048576 < dh
        · go_wp2_with fail
          go_ret3
          exact shown_bad _ _ _ HBW.out
        by_cases q4 : 1048576 < dg
        · go_wp2_with fail
          go_ret3
          exact shown_bad _ _ _ HBW.out
        have hx := (HO.out.cellAt k (by omega))
        have hxb := HR.out.1 k (by have := HO.out.1; simp at this; omega)
        rw [show (hs.map (Value.int .i64))[k]? = some (.int .i64 (hs.getD k 0)) from by have := HO.out.1; simp at this; simp [List.getD, show k < hs.length by omega]] at hx
        have hsn : Hid (0 ≤ dh → dh ≤ 1048576 → Rise (hs ++ [hs.getD k 0 + dh]) (1073741824 + 1048576 * (k + 1 : Nat))) := fun u0 u1 => rise_snoc HR.out (by have := HO.out.1; simpa using this) u0 u1
        generalize hs.getD k 0 = x at *
        obtain ⟨x0, x1⟩ := hxb
        have i1 : (k : Int) < ((k + 1 : Nat) : Int) := by omega
        have i2 : (k : Int) < (k : Int) + 1 := by omega
        have i3 : (0 : Int) ≤ (k : Int) := by omega
        have W1 : IntKind.i64.wrap (x + dh) = x + dh := IntWalk.i64_in _ (by omega)
        go_wp2_with fail
        go_cut [8] from 61 to 121 (fun v wx => ∃ (p' c2 : Nat) (hs' : List Int), v = .slice (some ⟨p', 0, none⟩) (k + 1 + 1) c2 ∧ p' ≠ q ∧ wx.ownsRow (w.heap.size + 1) 3 1 v (k + 1 + 1) (hs'.map (Value.int .i64)) ∧ wx.ownsRow (w.heap.size + 1) 3 1 (.slice (some ⟨q, 0, none⟩) (k + 1) c') (k + 1) (gs.map (Value.int .i64)) ∧ Rise hs' (1073741824 + 1048576 * (k + 1 : Nat)) ∧ Below (w.heap.size + 1) (w.alloc (.cells #[.int .i64 H, .int .i64 G, .slice (some ⟨bh, oh, none⟩) n c0, .slice (some ⟨bg, og, none⟩) n c1] 38)) wx)
        case first =>
          go_region_law (refine step_append_lies _ rfl (.tmp 96) (.tmp 107) 29 rfl (w.heap.size + 1) 3 i0 (.int .i64 0) 1 8 Try.underlying29 hi hz0 hz1 hz2 rfl (by decide) _ (k + 1) _ rfl ((HO.out.alloc _).drew) ⟨wo.heap.size, 0, none⟩ 1 1 [.int .i64 (x + dh)] rfl rfl (new_cell _ _) (by simp [Value.oneCell']) (by decide) (by unfold maxLen; omega) (by omega) (by simp; omega) _ rfl ?_; intro g cap w1 hown1 hgrow1 hat1 hlt1)
          all_goals (go_wp2_with fail)
          all_goals go_meet
          all_goals
            obtain ⟨r1, r2, r3⟩ := gone_next hpq HO'.out hown1 hgrow1 hat1
            exact ⟨g, cap, _, rfl, r1, r2, r3, hsn.out (by omega) (by omega), below_next hB.out HO.out hsz hgrow1⟩
        case rest =>
          obtain ⟨p', c2, hs', rfl, hpq', ho2, ho3, hr2, hb2⟩ := hcut
          obtain ⟨wm, rfl⟩ : ∃ wm : World, wm = wc := ⟨_, rfl⟩
          have cG2 : wm.cell? ⟨w.heap.size, 3, none⟩ = some (.slice (some ⟨bg, og, none⟩) n c1) := by
            rw [hb2.cell (p := ⟨w.heap.size, 3, none⟩) (Nat.lt_succ_self _), World.cell?_alloc_at _ _ _ _ rfl]; rfl
          have hbw2 : Below w.heap.size w wm := ((Below.refl _ _).alloc (Nat.le_refl _) _).trans (hb2.mono (by omega))
          have eg2 : wm.cell? ⟨bg, og + k, none⟩ = some (.int .i64 dg) := DG.out wm hbw2
          have hsz2 : w.heap.size + 1 ≤ wm.heap.size := by have := hb2.size; simpa using this
          have hx2 := (ho3.cellAt k (by omega))
          have hxb2 := HR'.out.1 k (by have := HO'.out.1; simp at this; omega)
          rw [show (gs.map (Value.int .i64))[k]? = some (.int .i64 (gs.getD k 0)) from by have := HO'.out.1; simp at this; simp [List.getD, show k < gs.length by omega]] at hx2
          have hsn2 : Hid (0 ≤ dg → dg ≤ 1048576 → Rise (gs ++ [gs.getD k 0 + dg]) (1073741824 + 1048576 * (k + 1 : Nat))) := fun u0 u1 => rise_snoc HR'.out (by have := HO'.out.1; simpa using this) u0 u1
          generalize gs.getD k 0 = y at *
          obtain ⟨y0, y1⟩ := hxb2
          have HO2 := Lib.hid ho2
          have HO3 := Lib.hid ho3
          have HR2 := Lib.hid hr2
          have HB2 := Lib.hid hb2
          have HBW2 := Lib.hid hbw2
          clear ho2 ho3 hr2 hb2 hbw2 W1 hx eh eg cH cG
          have W2 : IntKind.i64.wrap (y + dg) = y + dg := IntWalk.i64_in _ (by omega)
          go_wp2_with fail
          go_region_law (refine step_append_lies _ rfl (.tmp 109) (.tmp 120) 29 rfl (w.heap.size + 1) 3 i0 (.int .i64 0) 1 8 Try.underlying29 hi hz0 hz1 hz2 rfl (by decide) _ (k + 1) _ rfl ((HO3.out.alloc _).drew) ⟨wm.heap.size, 0, none⟩ 1 1 [.int .i64 (y + dg)] rfl rfl (new_cell _ _) (by simp [Value.oneCell']) (by decide) (by unfold maxLen; omega) (by omega) (by simp; omega) _ rfl ?_; intro g cap w1 hown1 hgrow1 hat1 hlt1)
          all_goals
            obtain ⟨r1, r2, r3⟩ := gone_next (fun h => hpq' h.symm) HO2.out hown1 hgrow1 hat1
            have r4 := hsn2.out (by omega) (by omega)
            have r5 := below_next HB2.out HO3.out hsz2 hgrow1
            have R1 := Lib.hid r1
            have R2 := Lib.hid r2
            have R3 := Lib.hid r3
            have R4 := Lib.hid r4
            have R5 := Lib.hid r5
            clear r1 r2 r3 r4 r5 hown1 hgrow1 hat1 hlt1 W2 hx2 cG2 eg2
            go_wp2_with fail
            go_roundw
            case rel => exact ⟨k + 1, by omega, by go_num, ⟨p', g, c2, cap, hs', _, rfl, rfl, (fun h => R1.out h.symm), R3.out, R2.out, HR2.out, R4.out⟩, R5.out⟩
            case measure => simp [intOf]; omega
      · go_wp2_with fail
        go_ret3
        exact ⟨HBW.out, .inr ⟨k + 1, _, _, c, c', hs, gs, rfl, by omega, by omega, slOf_row HO.out, slOf_row HO'.out, HR.out.mono (by omega), HR'.out.mono (by omega), d0, d1⟩⟩

end Go.Proofs.Ytmenifpibbjicaa.base
