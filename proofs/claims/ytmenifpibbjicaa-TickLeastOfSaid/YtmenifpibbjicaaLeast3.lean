/-
  The plain law of the least of two lists; and append's law for a slice of whatever make (nil, empty or not) onto a slice of the call's own.
-/
import Derived.Test.YtmenifpibbjicaaLeast2
namespace Go.Proofs.Ytmenifpibbjicaa.base
open Go.RowKit

/-- The lesser of two. -/
def lessF (a z : Int) : Int := if a ≤ z then a else z

theorem lessF_assoc (a b c : Int) : lessF (lessF a b) c = lessF a (lessF b c) := by
  have key : ∀ x y : Int, (x ≤ y ∧ lessF x y = x) ∨ (y < x ∧ lessF x y = y) := fun x y => by unfold lessF; split <;> omega
  rcases key a b with ⟨p, e⟩ | ⟨p, e⟩ <;> rw [e] <;> rcases key b c with ⟨q, e'⟩ | ⟨q, e'⟩ <;> rw [e']
  · rw [e]; rcases key a c with ⟨r, e''⟩ | ⟨r, e''⟩ <;> rw [e'']; omega
  · rw [e]
  · rcases key a c with ⟨r, e''⟩ | ⟨r, e''⟩ <;> rw [e'']; omega

theorem fold_less (l : List Int) (x y : Int) : l.foldl lessF (lessF x y) = lessF x (l.foldl lessF y) := by
  induction l generalizing y with
  | nil => rfl
  | cons z l ih => rw [List.foldl_cons, List.foldl_cons, lessF_assoc, ih]

theorem leastF_eq (l : List Int) : leastF l = l.foldl lessF 1099511627776 := rfl

theorem fold_le (l : List Int) (x : Int) : l.foldl lessF x ≤ x ∧ ∀ z ∈ l, l.foldl lessF x ≤ z := by
  induction l generalizing x with
  | nil => exact ⟨Int.le_refl _, fun z h => by cases h⟩
  | cons y l ih =>
    obtain ⟨h1, h2⟩ := ih (lessF x y)
    have a1 : lessF x y ≤ x := by unfold lessF; split <;> omega
    have a2 : lessF x y ≤ y := by unfold lessF; split <;> omega
    refine ⟨Int.le_trans h1 a1, fun z hz => ?_⟩
    rcases List.mem_cons.1 hz with rfl | hz
    · exact Int.le_trans h1 a2
    · exact h2 z hz

theorem leastF_append (a b : List Int) : leastF (a ++ b) = lessF (leastF a) (leastF b) := by
  have h : leastF a = lessF (leastF a) 1099511627776 := by
    have := (fold_le a 1099511627776).1
    unfold lessF; rw [if_pos (by rw [leastF_eq]; exact this)]
  rw [leastF_eq, List.foldl_append, ← leastF_eq a, h, fold_less, ← h]; rfl

theorem leastF_le (l : List Int) (z : Int) (h : z ∈ l) : leastF l ≤ z := (fold_le l 1099511627776).2 z h

theorem fold_mem (l : List Int) (x : Int) : l.foldl lessF x = x ∨ l.foldl lessF x ∈ l := by
  induction l generalizing x with
  | nil => exact .inl rfl
  | cons y l ih =>
    rw [List.foldl_cons]
    rcases ih (lessF x y) with h | h
    · rw [h]; unfold lessF; split
      · exact .inl rfl
      · exact .inr (by simp)
    · exact .inr (List.mem_cons_of_mem _ h)

theorem leastF_mem {l : List Int} (hne : l ≠ []) (hr : allRight l = true) : leastF l ∈ l := by
  rcases fold_mem l 1099511627776 with h | h
  · obtain ⟨y, l', rfl⟩ := List.exists_cons_of_ne_nil hne
    have h1 := leastF_le (y :: l') y (by simp)
    have h2 := (allRight_at hr 0 (by simp)).2
    rw [List.getD_cons_zero] at h2
    rw [← leastF_eq] at h
    rw [h] at h1 ⊢
    have : y = 1099511627776 := by omega
    rw [this]; simp
  · exact h

theorem allRight_append (a b : List Int) : allRight (a ++ b) = (allRight a && allRight b) := by unfold allRight; exact List.all_append

/-- Append's law, whatever the make of what is appended. -/
theorem append_own_any {P : Program} (w : World) {ops : Array Oper} {rest : List Oper} {o : Oper} {a : Act} {Q : Exit → Act → World → Prop} (hgd : o.guard = none) (s x : Operand) (t : TypeId)
    (ho : o.op = .call { callee := .builtin .append, args := #[s, x], argTypes := #[t, t] })
    (base : Nat) (e : TypeId) (i : TypeInfo) (z : Value) (size bytes : Nat) (ht : P.underlying t = some (.slice e)) (hi : P.info? e = some i) (hz : i.zero = some z)
    (hsize : i.size = size) (hby : i.bytes = bytes) (hzs : z.cells.size = size) (hsz : 0 < size)
    (v : Value) (n : Nat) (xs : List Value) (hs : a.eval s = v) (hown : w.ownsRow base e size v n xs)
    (ao : Option Addr) (m c : Nat) (news : List Value) (hx : a.eval x = .slice ao m c) (hl : news.length = m * size) (hnone : ao = none → m = 0 ∧ c = 0)
    (hnews : ∀ ad, ao = some ad → ∀ j u, news[j]? = some u → w.cell? (ad.add j) = some u) (h1 : ∀ u ∈ news, u.oneCell' = true)
    (h63 : n + m ≤ maxLen) (hbytes : (n + m) * bytes ≤ 140737488355328) (hbase : base ≤ w.heap.size)
    (h : ∀ v' w', w'.ownsRow base e size v' (n + m) (xs ++ news) → w.grownBy w' v.ownBlock → wpList P ops Q rest (a.put o.dst v') w') : wpList P ops Q (o :: rest) a w := by
  cases ao with
  | some ad => exact wpList_append_own w hgd s x t ho base e i z size bytes ht hi hz hsize hby hzs hsz v n xs hs hown ad m c news hx hl (hnews ad rfl) h1 h63 hbytes hbase fun v' w' p q _ => h v' w' p q
  | none =>
    obtain ⟨rfl, rfl⟩ := hnone rfl
    obtain rfl : news = [] := List.eq_nil_of_length_eq_zero (by simpa using hl)
    refine wpList_append_own_none hgd s x t ho base e i size ht hi v n xs hs hown hx (h v w ?_ (World.grownBy.refl _ _))
    simpa using hown

/-- The cells of a slice, as the law above asks for them. -/
theorem SlOf.newsAny {w : World} {a : Option Addr} {len : Nat} {zs : List Int} (h : SlOf w a len zs) :
    ∀ ad, a = some ad → ∀ j u, (zs.map (Value.int .i64))[j]? = some u → w.cell? (ad.add j) = some u := by
  intro ad had
  obtain ⟨hz, hs⟩ := h
  rcases hs with rfl | ⟨b, off, hx, hc⟩
  · obtain rfl : zs = [] := List.eq_nil_of_length_eq_zero hz
    intro j u hu; simp at hu
  · rw [had] at hx
    obtain rfl := Option.some.inj hx
    exact SlOf.news hz hc

/-- A slice of the call's own, read as a list of ints. -/
theorem owns_slOf {w : World} {base : Nat} {v : Value} {n : Nat} {zs : List Int} (h : w.ownsRow base 3 1 v n (zs.map (Value.int .i64))) :
    ∃ a c, v = .slice a n c ∧ SlOf w a n zs := by
  have hl : zs.length = n := by have := h.1; simpa using this
  have h' := h
  rcases h.2 with ⟨rfl, rfl⟩ | ⟨g, c, cur, rfl, hb, hg, hn, _, _, _⟩
  · exact ⟨none, 0, rfl, hl, .inl rfl⟩
  · refine ⟨_, c, rfl, hl, .inr ⟨g, 0, rfl, fun i hi => ?_⟩⟩
    rw [Nat.zero_add, h'.cellAt i (by omega)]
    simp [List.getD, show i < zs.length by omega]

end Go.Proofs.Ytmenifpibbjicaa.base
