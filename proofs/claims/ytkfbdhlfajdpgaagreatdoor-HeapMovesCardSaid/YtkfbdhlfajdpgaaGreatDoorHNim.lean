/- Nim sums and sorted lists: no program in sight. -/
import Derived.Test.YtkfbdhlfajdpgaaGreatDoorHGrundy
namespace Go.Proofs.YtkfbdhlfajdpgaaGreatDoor.HNim
set_option linter.unusedVariables false
set_option linter.unusedSimpArgs false
open Go Go.Proofs.YtkfbdhlfajdpgaaGreatDoor.UBits Go.Proofs.YtkfbdhlfajdpgaaGreatDoor.HSpec

/-! ### nim sums -/
/-- Natural sums without carry. -/
def nx : List Nat → Nat
  | [] => 0
  | x :: l => x ^^^ nx l
theorem nx_append : ∀ a b : List Nat, nx (a ++ b) = nx a ^^^ nx b
  | [], b => by simp [nx]
  | x :: a, b => by simp [nx, nx_append a b, Nat.xor_assoc]
theorem nx_perm {a b : List Nat} (h : a.Perm b) : nx a = nx b := by
  induction h with
  | nil => rfl
  | cons x _ ih => simp [nx, ih]
  | swap x y l => simp only [nx]; rw [← Nat.xor_assoc, ← Nat.xor_assoc, Nat.xor_comm y x]
  | trans _ _ h1 h2 => exact h1.trans h2
theorem nx_bit (k : Nat) : ∀ l : List Nat, (nx l).testBit k = true → ∃ x ∈ l, x.testBit k = true
  | [], h => by simp [nx] at h
  | x :: l, h => by
    by_cases hx : x.testBit k = true
    · exact ⟨x, by simp, hx⟩
    · simp only [nx, Nat.testBit_xor] at h
      have hx' : x.testBit k = false := by simpa using hx
      rw [hx'] at h
      obtain ⟨y, hy, hb⟩ := nx_bit k l (by simpa using h)
      exact ⟨y, by simp [hy], hb⟩
/-- A sum that is not 0 makes some summand smaller. -/
theorem nim_lt {l : List Nat} (h : nx l ≠ 0) : ∃ x ∈ l, x ^^^ nx l < x := by
  obtain ⟨x, hx, hb⟩ := nx_bit (Nat.log2 (nx l)) l (Nat.testBit_log2 h)
  refine ⟨x, hx, ?_⟩
  obtain ⟨s, hs⟩ : ∃ s, nx l = s := ⟨_, rfl⟩
  obtain ⟨k, hk⟩ : ∃ k, Nat.log2 s = k := ⟨_, rfl⟩
  rw [hs] at hb h ⊢
  rw [hk] at hb
  have h1 : 2 ^ k ≤ s := by rw [← hk]; exact Nat.log2_self_le h
  have h2 : s < 2 ^ (k + 1) := by rw [← hk]; exact Nat.lt_log2_self
  have hpos : 0 < 2 ^ k := Nat.two_pow_pos k
  have e1 : s / 2 ^ k = 1 := Nat.div_eq_of_lt_le (by omega) (by rw [Nat.pow_succ] at h2; omega)
  have e2 : (x ^^^ s) / 2 ^ k = (x / 2 ^ k) ^^^ (s / 2 ^ k) := by
    rw [← Nat.shiftRight_eq_div_pow, ← Nat.shiftRight_eq_div_pow, ← Nat.shiftRight_eq_div_pow, Nat.shiftRight_xor_distrib]
  have e3 : x / 2 ^ k % 2 = 1 := by
    rw [Nat.testBit_eq_decide_div_mod_eq] at hb
    simpa using hb
  have e4 := xor_and (x / 2 ^ k) 1
  rw [Nat.and_one_is_mod, e3] at e4
  rw [e1] at e2
  refine Classical.byContradiction fun hge => ?_
  have := Nat.div_le_div_right (c := 2 ^ k) (Nat.le_of_not_lt hge)
  omega

/-! ### sorted lists -/
theorem sorted_unique {α : Type} {le : α → α → Prop} (anti : ∀ a b, le a b → le b a → a = b) : ∀ {a b : List α}, a.Perm b → a.Pairwise le → b.Pairwise le → a = b := by
  intro a
  induction a with
  | nil => intro b h _ _; exact (List.nil_perm.1 h).symm
  | cons x a ih =>
    intro b h ha hb
    cases b with
    | nil => exact absurd h.length_eq (by simp)
    | cons y b =>
      obtain ⟨ha1, ha2⟩ := List.pairwise_cons.1 ha
      obtain ⟨hb1, hb2⟩ := List.pairwise_cons.1 hb
      have e : x = y := by
        have hx : x ∈ y :: b := h.subset (by simp)
        have hy : y ∈ x :: a := h.symm.subset (by simp)
        rcases List.mem_cons.1 hx with e | hx
        · exact e
        · rcases List.mem_cons.1 hy with e | hy
          · exact e.symm
          · exact anti _ _ (ha1 _ hy) (hb1 _ hx)
      subst e
      rw [ih (List.Perm.cons_inv h) ha2 hb2]
/-- Strictly rising lists of the same members are one list. -/
theorem rising_unique {α : Type} {lt : α → α → Prop} (irr : ∀ a, ¬ lt a a) (tr : ∀ a b c, lt a b → lt b c → lt a c) : ∀ {a b : List α}, a.Pairwise lt → b.Pairwise lt → (∀ x, x ∈ a ↔ x ∈ b) → a = b := by
  intro a
  induction a with
  | nil =>
    intro b _ _ h
    cases b with
    | nil => rfl
    | cons y b => exact absurd ((h y).2 (by simp)) (by simp)
  | cons x a ih =>
    intro b ha hb h
    cases b with
    | nil => exact absurd ((h x).1 (by simp)) (by simp)
    | cons y b =>
      obtain ⟨ha1, ha2⟩ := List.pairwise_cons.1 ha
      obtain ⟨hb1, hb2⟩ := List.pairwise_cons.1 hb
      have e : x = y := by
        have hx : x ∈ y :: b := (h x).1 (by simp)
        have hy : y ∈ x :: a := (h y).2 (by simp)
        rcases List.mem_cons.1 hx with e | hx
        · exact e
        · rcases List.mem_cons.1 hy with e | hy
          · exact e.symm
          · exact absurd (tr _ _ _ (ha1 _ hy) (hb1 _ hx)) (irr _)
      subst e
      rw [ih ha2 hb2 (fun z => ?_)]
      constructor
      · intro hz
        rcases List.mem_cons.1 ((h z).1 (by simp [hz])) with e | hz'
        · exact absurd (ha1 _ hz) (e ▸ irr _)
        · exact hz'
      · intro hz
        rcases List.mem_cons.1 ((h z).2 (by simp [hz])) with e | hz'
        · exact absurd (hb1 _ hz) (e ▸ irr _)
        · exact hz'

/-! ### lists by their order -/
/-- slices.Compare of two lists of numbers. -/
def cmpL : List Int → List Int → Int
  | [], [] => 0
  | [], _ :: _ => -1
  | _ :: _, [] => 1
  | x :: a, y :: b => if x < y then -1 else if y < x then 1 else cmpL a b
theorem cmpL_rng : ∀ a b, cmpL a b = -1 ∨ cmpL a b = 0 ∨ cmpL a b = 1
  | [], [] => by simp [cmpL]
  | [], _ :: _ => by simp [cmpL]
  | _ :: _, [] => by simp [cmpL]
  | x :: a, y :: b => by
    rw [cmpL]
    split
    · simp
    · split
      · simp
      · exact cmpL_rng a b
theorem cmpL_self : ∀ a, cmpL a a = 0
  | [] => rfl
  | x :: a => by rw [cmpL, if_neg (by omega), if_neg (by omega)]; exact cmpL_self a
theorem cmpL_zero : ∀ {a b}, cmpL a b = 0 → a = b
  | [], [], _ => rfl
  | [], _ :: _, h => by simp [cmpL] at h
  | _ :: _, [], h => by simp [cmpL] at h
  | x :: a, y :: b, h => by
    rw [cmpL] at h
    split at h
    · omega
    · split at h
      · omega
      · rw [cmpL_zero h, show x = y by omega]
theorem cmpL_neg : ∀ {a b}, cmpL a b < 0 → 0 < cmpL b a
  | [], [], h => by simp [cmpL] at h
  | [], _ :: _, _ => by simp [cmpL]
  | _ :: _, [], h => by simp [cmpL] at h
  | x :: a, y :: b, h => by
    rw [cmpL] at h ⊢
    split at h
    · rw [if_neg (by omega), if_pos (by omega)]; omega
    · split at h
      · omega
      · rw [if_neg (by omega), if_neg (by omega)]
        exact cmpL_neg h
theorem cmpL_trans : ∀ {a b c}, cmpL a b < 0 → cmpL b c < 0 → cmpL a c < 0
  | [], [], _, h, _ => by simp [cmpL] at h
  | _ :: _, [], _, h, _ => by simp [cmpL] at h
  | _, _ :: _, [], _, h => by simp [cmpL] at h
  | [], _ :: _, _ :: _, _, _ => by simp [cmpL]
  | x :: a, y :: b, z :: c, h1, h2 => by
    rw [cmpL] at h1 h2 ⊢
    split at h1
    · split at h2
      · rw [if_pos (by omega)]; omega
      · split at h2
        · omega
        · rw [if_pos (by omega)]; omega
    · split at h1
      · omega
      · split at h2
        · rw [if_pos (by omega)]; omega
        · split at h2
          · omega
          · rw [if_neg (by omega), if_neg (by omega)]
            exact cmpL_trans h1 h2
theorem cmpL_total (a b : List Int) : cmpL a b < 0 ∨ a = b ∨ cmpL b a < 0 := by
  rcases cmpL_rng a b with h | h | h
  · exact .inl (by omega)
  · exact .inr (.inl (cmpL_zero h))
  · right; right
    rcases cmpL_rng b a with g | g | g
    · omega
    · rw [cmpL_zero g, cmpL_self] at h; omega
    · rcases cmpL_rng a b with h' | h' | h'
      all_goals first | omega | skip
      exact absurd g (by
        intro g
        -- both 1: by induction
        exact (pos_pos a b h g).elim)
where
  pos_pos : ∀ a b : List Int, cmpL a b = 1 → cmpL b a = 1 → False
  | [], [], h, _ => by simp [cmpL] at h
  | [], _ :: _, h, _ => by simp [cmpL] at h
  | _ :: _, [], _, g => by simp [cmpL] at g
  | x :: a, y :: b, h, g => by
    rw [cmpL] at h g
    split at h
    · omega
    · split at h
      · rw [if_pos (by omega)] at g; omega
      · rw [if_neg (by omega), if_neg (by omega)] at g
        exact pos_pos a b h g
/-- a is not after b. -/
def leL (a b : List Int) : Prop := ¬ cmpL b a < 0
theorem leL_anti (a b : List Int) (h1 : leL a b) (h2 : leL b a) : a = b := by
  rcases cmpL_total a b with h | h | h
  · exact absurd h h2
  · exact h
  · exact absurd h h1
theorem leL_trans (a b c : List Int) (h1 : leL a b) (h2 : leL b c) : leL a c := by
  intro h
  rcases cmpL_total a b with g | g | g
  · exact h2 (cmpL_trans h g)
  · subst g; exact h2 h
  · exact h1 g
theorem leL_of_lt {a b : List Int} (h : cmpL a b < 0) : leL a b := fun g => by
  have := cmpL_trans h g; rw [cmpL_self] at this; omega
theorem leL_total (a b : List Int) : leL a b ∨ leL b a := by
  rcases cmpL_total a b with h | h | h
  · exact .inl (leL_of_lt h)
  · subst h; exact .inl (by unfold leL; rw [cmpL_self]; omega)
  · exact .inr (leL_of_lt h)
theorem lt_of_le_ne {a b : List Int} (h : leL a b) (hne : a ≠ b) : cmpL a b < 0 := by
  rcases cmpL_total a b with g | g | g
  · exact g
  · exact absurd g hne
  · exact absurd g h

/-- Of equal neighbours the first alone: behind an element p. -/
def dgo (p : List Int) : List (List Int) → List (List Int)
  | [] => []
  | y :: l => if y = p then dgo y l else y :: dgo y l
def dedup : List (List Int) → List (List Int)
  | [] => []
  | x :: l => x :: dgo x l
theorem mem_dgo {z : List Int} : ∀ (l : List (List Int)) (p : List Int), z ∈ dgo p l → z ∈ l
  | [], _, h => by simp [dgo] at h
  | y :: l, p, h => by
    rw [dgo] at h
    split at h
    · exact List.mem_cons_of_mem _ (mem_dgo l y h)
    · rcases List.mem_cons.1 h with e | h
      · subst e; simp
      · exact List.mem_cons_of_mem _ (mem_dgo l y h)
theorem dgo_mem {z : List Int} : ∀ (l : List (List Int)) (p : List Int), z ∈ l → z = p ∨ z ∈ dgo p l
  | [], _, h => by simp at h
  | y :: l, p, h => by
    rw [dgo]
    split
    · rename_i e
      rcases List.mem_cons.1 h with e2 | h
      · exact .inl (e2.trans e)
      · rcases dgo_mem l y h with e2 | h2
        · exact .inl (e2.trans e)
        · exact .inr h2
    · rcases List.mem_cons.1 h with e2 | h
      · subst e2; exact .inr (by simp)
      · rcases dgo_mem l y h with e2 | h2
        · subst e2; exact .inr (by simp)
        · exact .inr (List.mem_cons_of_mem _ h2)
theorem mem_dedup : ∀ (l : List (List Int)) (z : List Int), z ∈ dedup l ↔ z ∈ l
  | [], z => by simp [dedup]
  | x :: l, z => by
    rw [dedup, List.mem_cons, List.mem_cons]
    constructor
    · rintro (h | h)
      · exact .inl h
      · exact .inr (mem_dgo l x h)
    · rintro (h | h)
      · exact .inl h
      · exact dgo_mem l x h
theorem dgo_rising : ∀ (l : List (List Int)) (p : List Int), (p :: l).Pairwise leL → (dgo p l).Pairwise (fun a b => cmpL a b < 0) ∧ ∀ z ∈ dgo p l, cmpL p z < 0
  | [], p, _ => by simp [dgo]
  | y :: l, p, h => by
    obtain ⟨h1, h2⟩ := List.pairwise_cons.1 h
    obtain ⟨g1, g2⟩ := dgo_rising l y h2
    rw [dgo]
    split
    · rename_i e; subst e; exact ⟨g1, g2⟩
    · rename_i e
      have hp : cmpL p y < 0 := lt_of_le_ne (h1 y (by simp)) (fun e2 => e e2.symm)
      refine ⟨List.pairwise_cons.2 ⟨g2, g1⟩, fun z hz => ?_⟩
      rcases List.mem_cons.1 hz with e2 | hz
      · subst e2; exact hp
      · exact cmpL_trans hp (g2 z hz)
theorem dedup_rising : ∀ (l : List (List Int)), l.Pairwise leL → (dedup l).Pairwise (fun a b => cmpL a b < 0)
  | [], _ => by simp [dedup]
  | x :: l, h => by
    obtain ⟨g1, g2⟩ := dgo_rising l x h
    rw [dedup]
    exact List.pairwise_cons.2 ⟨g2, g1⟩

/-! ### what heap.Moves computes -/
def isort (l : List Int) : List Int := l.mergeSort fun x y => decide (x ≤ y)
def lsort (l : List (List Int)) : List (List Int) := l.mergeSort fun x y => !decide (cmpL y x < 0)
/-- The nim sum of heaps, as the code adds it. -/
def wsum (v : List Int) (hs : List Int) : Int := hs.foldl (fun s n => xr s (at0 v n)) 0
/-- The position behind a move of heap i to (a, b). -/
def ownOf (hs : List Int) (i : Nat) (p : Int × Int) : List Int := isort ((hs.eraseIdx i ++ [p.1, p.2]).filter (fun n => !(n == 0)))
def okM (v : List Int) (rest : Int) (p : Int × Int) : Bool := xr (xr rest (at0 v p.1)) (at0 v p.2) == 0
def outsAt (d v hs : List Int) (i : Nat) : List (List Int) := ((mv d (hs.getD i 0)).filter (okM v (xr (wsum v hs) (at0 v (hs.getD i 0))))).map (ownOf hs i)
def outsTo (d v hs : List Int) (k : Nat) : List (List Int) := (List.range k).flatMap (outsAt d v hs)
def outs (d v hs : List Int) : List (List Int) := outsTo d v hs hs.length
def movesOf (d v hs : List Int) : List (List Int) := dedup (lsort (outs d v hs))
theorem outsTo_succ (d v hs : List Int) (k : Nat) : outsTo d v hs (k + 1) = outsTo d v hs k ++ outsAt d v hs k := by simp [outsTo, List.range_succ]
theorem lsort_le (l : List (List Int)) : (lsort l).Pairwise leL := by
  refine (List.pairwise_mergeSort (le := fun x y => !decide (cmpL y x < 0)) (fun a b c h1 h2 => ?_) (fun a b => ?_) l).imp (fun {a b} h => ?_)
  · have h1' : leL a b := by simpa [leL] using h1
    have h2' : leL b c := by simpa [leL] using h2
    simpa [leL] using leL_trans a b c h1' h2'
  · have := leL_total a b
    simpa [leL] using this
  · simpa [leL] using h
theorem lsort_perm (l : List (List Int)) : (lsort l).Perm l := List.mergeSort_perm _ _
theorem lsort_of {a l : List (List Int)} (h : a.Perm l) (hs : a.Pairwise leL) : a = lsort l := sorted_unique leL_anti (h.trans (lsort_perm l).symm) hs (lsort_le l)
theorem isort_le (l : List Int) : (isort l).Pairwise (fun a b => a ≤ b) := by
  refine (List.pairwise_mergeSort (le := fun x y => decide (x ≤ y)) (fun a b c h1 h2 => ?_) (fun a b => ?_) l).imp (fun {a b} h => by simpa using h)
  · simp at h1 h2 ⊢; omega
  · simp; omega
theorem isort_perm (l : List Int) : (isort l).Perm l := List.mergeSort_perm _ _
theorem isort_of {a l : List Int} (h : a.Perm l) (hs : a.Pairwise (fun a b => a ≤ b)) : a = isort l := sorted_unique (fun a b h1 h2 => by omega) (h.trans (isort_perm l).symm) hs (isort_le l)
theorem mem_movesOf {d v hs : List Int} {z : List Int} : z ∈ movesOf d v hs ↔ ∃ i, i < hs.length ∧ ∃ p ∈ mv d (hs.getD i 0), okM v (xr (wsum v hs) (at0 v (hs.getD i 0))) p = true ∧ z = ownOf hs i p := by
  unfold movesOf
  rw [mem_dedup, (lsort_perm _).mem_iff]
  unfold outs outsTo outsAt
  simp only [List.mem_flatMap, List.mem_range, List.mem_map, List.mem_filter]
  constructor
  · rintro ⟨i, hi, p, ⟨h1, h2⟩, rfl⟩; exact ⟨i, hi, p, h1, h2, rfl⟩
  · rintro ⟨i, hi, p, h1, h2, rfl⟩; exact ⟨i, hi, p, ⟨h1, h2⟩, rfl⟩
end Go.Proofs.YtkfbdhlfajdpgaaGreatDoor.HNim
