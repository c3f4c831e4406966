/- A range over a function whose iterator keeps state of its own in cells: footprints (sets of blocks) instead of one boundary. Over any program. -/
import Derived.RangeFuncNested
import Derived.RangeFuncBound
import Derived.RangeFuncCalls
import Derived.RangeFuncLeaves
import Derived.Deep.Draws
namespace Go.Proofs.YtkfbdhlfajdpgaaGreatDoor.HIter
set_option linter.unusedVariables false
set_option linter.unusedSimpArgs false
open Go Go.RowKit

/-- Nothing but the blocks of D (and new ones) has turned. -/
structure Fr (D : Nat → Prop) (W W' : World) : Prop where
  os : W'.os = W.os
  tape : W'.tape = W.tape
  output : W'.output = W.output
  size : W.heap.size ≤ W'.heap.size
  block : ∀ k, k < W.heap.size → ¬ D k → W'.heap[k]? = W.heap[k]?

theorem Fr.refl (D : Nat → Prop) (W : World) : Fr D W W := ⟨rfl, rfl, rfl, Nat.le_refl _, fun _ _ _ => rfl⟩
theorem Fr.mono {D D' : Nat → Prop} {A B : World} (h : Fr D A B) (hD : ∀ k, k < A.heap.size → D k → D' k) : Fr D' A B :=
  ⟨h.os, h.tape, h.output, h.size, fun k hk hn => h.block k hk (fun hd => hn (hD k hk hd))⟩
/-- Two steps: what the second may turn was the first one's to turn, or new. -/
theorem Fr.trans {D D' : Nat → Prop} {A B C : World} (h : Fr D A B) (g : Fr D' B C) (hD : ∀ k, D' k → D k ∨ A.heap.size ≤ k) : Fr D A C :=
  ⟨g.os.trans h.os, g.tape.trans h.tape, g.output.trans h.output, Nat.le_trans h.size g.size, fun k hk hn =>
    (g.block k (Nat.lt_of_lt_of_le hk h.size) (fun hd => by rcases hD k hd with h1 | h1; exact hn h1; omega)).trans (h.block k hk hn)⟩
theorem Fr.of_below {D : Nat → Prop} {A B : World} (h : Below A.heap.size A B) : Fr D A B :=
  ⟨h.os, h.tape, h.output, h.size, fun k hk _ => h.block k hk⟩
theorem Fr.of_belowD {D : Nat → Prop} {A B : World} {n : Nat} (h : Below n A B) (hD : ∀ k, n ≤ k → k < A.heap.size → D k) : Fr D A B :=
  ⟨h.os, h.tape, h.output, h.size, fun k hk hn => h.block k (by rcases Nat.lt_or_ge k n with h1 | h1; exact h1; exact absurd (hD k h1 hk) hn)⟩
theorem Fr.below {D : Nat → Prop} {A B : World} {n : Nat} (h : Fr D A B) (hn : n ≤ A.heap.size) (hD : ∀ k, D k → n ≤ k) : Below n A B :=
  ⟨h.os, h.tape, h.output, h.size, fun k hk => h.block k (by omega) (fun hd => by have := hD k hd; omega)⟩
theorem Fr.cell {D : Nat → Prop} {A B : World} (h : Fr D A B) {p : Addr} (hp : p.block < A.heap.size) (hn : ¬ D p.block) : B.cell? p = A.cell? p :=
  World.cell?_of_block (w := A) (h.block p.block hp hn)
theorem Fr.frozen {D : Nat → Prop} {A B : World} (h : Fr D A B) {p : Addr} (hp : p.block < A.heap.size) (hn : ¬ D p.block) : B.frozen? p = A.frozen? p :=
  World.frozen?_of_block (w := A) (h.block p.block hp hn)
theorem Fr.grown {D : Nat → Prop} {A B : World} {row : Option Nat} (h : A.grownBy B row) (hD : ∀ k, row = some k → D k ∨ A.heap.size ≤ k) : Fr D A B :=
  ⟨h.os, h.tape, h.output, h.size, fun k hk hn => h.block k hk (fun e => by rcases hD k e.symm with h1 | h1; exact hn h1; omega)⟩
theorem Fr.alloc (D : Nat → Prop) (W : World) (o : Obj) : Fr D W (W.alloc o) := Fr.of_below ((Below.refl _ W).alloc (Nat.le_refl _) _)
theorem Fr.drew (D : Nat → Prop) (W : World) : Fr D W W.drew := ⟨rfl, rfl, rfl, Nat.le_refl _, fun _ _ _ => rfl⟩
theorem Fr.drewN (D : Nat → Prop) (W : World) (n : Nat) : Fr D W (W.drewN n) := ⟨rfl, rfl, rfl, Nat.le_refl _, fun _ _ _ => rfl⟩
theorem Fr.setCell {D : Nat → Prop} (W : World) (p : Addr) (v : Value) (hD : D p.block ∨ W.heap.size ≤ p.block) : Fr D W (W.setCell p v) :=
  ⟨rfl, rfl, rfl, by simp [World.setCell], fun k hk hn => Below.heap_setCell _ _ _ _ (by intro e; subst e; rcases hD with h | h; exact hn h; omega)⟩
theorem Fr.putObj {D : Nat → Prop} (W : World) (r : Nat) (o : Obj) (hD : D r ∨ W.heap.size ≤ r) : Fr D W (W.putObj r o) :=
  ⟨rfl, rfl, rfl, by simp, fun k hk hn => World.putObj_heap_other (by intro e; subst e; rcases hD with h | h; exact hn h; omega)⟩

/-- J speaks of its own blocks alone, and of the streams. -/
def Stable {σ : Type} (J : (Nat → Prop) → σ → World → Prop) : Prop :=
  ∀ D s A B, J D s A → A.heap.size ≤ B.heap.size → (∀ k, D k → B.heap[k]? = A.heap[k]?) → J D s B
/-- .. which lie in the heap. -/
def Lies {σ : Type} (J : (Nat → Prop) → σ → World → Prop) : Prop := ∀ D s A, J D s A → ∀ k, D k → k < A.heap.size

/-- One round of loop l: what it turns is its own. -/
def Goes {α : Type} (J : (Nat → Prop) → List α → World → Prop) (D : Nat → Prop) (s : List α) (W W' : World) : Prop :=
  ∃ D', J D' s W' ∧ Fr D W W' ∧ ∀ k, D' k → D k ∨ W.heap.size ≤ k
theorem Goes.later {α : Type} {J : (Nat → Prop) → List α → World → Prop} {D : Nat → Prop} {s : List α} {A B C : World} (hJ : Stable J) (hL : Lies J) (h : Goes J D s A B)
    {E : Nat → Prop} (hf : Fr E B C) (hE : ∀ k, E k → A.heap.size ≤ k) (hd : ∀ D', J D' s B → (∀ k, D' k → D k ∨ A.heap.size ≤ k) → ∀ k, D' k → ¬ E k) : Goes J D s A C := by
  obtain ⟨D', h1, h2, h3⟩ := h
  exact ⟨D', hJ D' s B C h1 hf.size (fun k hk => hf.block k (hL _ _ _ h1 k hk) (hd D' h1 h3 k hk)), h2.trans hf (fun k hk => .inr (hE k hk)), h3⟩

theorem Goes.trans {α : Type} {J : (Nat → Prop) → List α → World → Prop} {D D' : Nat → Prop} {s : List α} {A B C : World} (hF : Fr D A B) (hD : ∀ k, D' k → D k ∨ A.heap.size ≤ k) (h : Goes J D' s B C) : Goes J D s A C := by
  obtain ⟨D2, h1, h2, h3⟩ := h
  exact ⟨D2, h1, hF.trans h2 hD, fun k hk => (h3 k hk).elim (hD k) (fun g => .inr (Nat.le_trans hF.size g))⟩

def Rounds {α : Type} (F : Fence) (n : Nat) (P : Program) (l : Nat) (encs : α → Array Value) (Next : List α → α → Prop) (J Jx : (Nat → Prop) → List α → World → Prop) : Prop :=
  ∀ D pre x W, J D pre W → Next pre x → YieldAt F n P l (encs x) W fun e W' =>
    (e = .returned (.bool true) ∧ Goes J D (pre ++ [x]) W W') ∨ (e = .returned (.bool false) ∧ Goes Jx D (pre ++ [x]) W W')

/-- What an iterator's body promises whoever calls it with a yield. 'Own': what it needs of the world in which it begins (its captured blocks; those are none of the caller's D). -/
def SeqF {α : Type} (F : Fence) (n : Nat) (P : Program) (g : Nat) (lb : Array Value) (encs : α → Array Value) (Next : List α → α → Prop) (Done : List α → Prop) (Bd : Option Nat) (Own : (Nat → Prop) → World → Prop) : Prop :=
  ∀ (l : Nat) (J Jx : (Nat → Prop) → List α → World → Prop) (D : Nat → Prop) (W : World), Stable J → Lies J → Stable Jx → Lies Jx → (∀ b, Bd = some b → ∀ D s W, J D s W → s.length ≤ b) → Rounds F (n - 1) P l encs Next J Jx → Own D W → J D [] W →
    CallsIn F n P g (#[.func (.yield l) #[] #[]] ++ lb) W fun e W' => (∃ v, e = .returned v) ∧ ((∃ xs, Done xs ∧ Goes J D xs W W') ∨ (∃ pre, Goes Jx D pre W W'))

variable {F : Fence} {n : Nat} {P : Program}

/-- How the body of a round is left. -/
def postF {α : Type} (I : (Nat → Prop) → List α → World → Prop) (Ix : Code → (Nat → Prop) → List α → World → Prop) (D : Nat → Prop) (s : List α) (W : World) : Exit → Act → World → Prop
  | .normal, _, W' => Goes I D s W W'
  | .ret, _, W' => Goes (Ix .ret) D s W W'
  | .exit id, _, W' => Goes (Ix (.exit id)) D s W W'
  | .goto t, _, W' => Goes (Ix (.goto t)) D s W W'
  | .panic _, _, _ => False
  | .outgrown, _, _ => False

theorem wpIn_range {α : Type} {g : Operand} {ps : Array Tmp} {assign body : Code} {Q : Exit → Act → World → Prop} {a : Act} {w : World}
    (hro : F.round = none) (h1 : F.depth = none) {gf : Nat} {lb : Array Value} (hg : a.eval g = .func (.func gf) #[] lb) (hFg : F.fn gf) (eg : ∀ args w, (callFunc gf args).run P w = .ok (.enter gf args) w)
    {encs : α → Array Value} {Next : List α → α → Prop} {Done : List α → Prop} {Bd : Option Nat} {Own : (Nat → Prop) → World → Prop} (hseq : SeqF F (n - 1) P gf lb encs Next Done Bd Own)
    (hps : ∀ x, (encs x).size = ps.size)
    (I : (Nat → Prop) → List α → World → Prop) (Ix : Code → (Nat → Prop) → List α → World → Prop) (hI : Stable I) (hIL : Lies I) (hX : ∀ c, Stable (Ix c)) (hXL : ∀ c, Lies (Ix c))
    (hBd : ∀ b, Bd = some b → ∀ D s W, I D s W → s.length ≤ b)
    (D0 : Nat → Prop) (h0 : I D0 [] w)
    (hown : ∀ W1 D1, Below w.heap.size w W1 → (∀ k, D1 k → D0 k ∨ w.heap.size ≤ k) → Own D1 W1)
    (a₁ : α → Act)
    (hassign : ∀ (l : Nat) (x : α) (W : World) (K : Act → World → Prop), K (a₁ x) W →
      assign.wpIn (F.inRound l) (n - 1 - 1) P (Exit.then K (fun _ _ _ => False)) { tmps := (ps.zip (encs x)).foldl (fun t (p, v) => t.setIfInBounds p v) a.tmps, defers := [] } W)
    (hbody : ∀ (l : Nat) (D : Nat → Prop) (pre : List α) (x : α) (W : World), w.heap.size ≤ W.heap.size → I D pre W → Next pre x → body.wpIn (F.inRound l) (n - 1 - 1) P (postF I Ix D (pre ++ [x]) W) (a₁ x) W)
    (hdone : ∀ (D : Nat → Prop) (xs : List α) (W : World), Done xs → I D xs W → Fr D0 w W → (∀ k, D k → D0 k ∨ w.heap.size ≤ k) → ¬ D w.heap.size → W.heap[w.heap.size]? = some (.deferred (some [])) →
      Q .normal { a with defers := { target := .collected w.heap.size, args := #[] } :: a.defers } W)
    (hstop : ∀ (D : Nat → Prop) (c : Code) (pre : List α) (W : World), Ix c D pre W → Fr D0 w W → (∀ k, D k → D0 k ∨ w.heap.size ≤ k) → ¬ D w.heap.size → W.heap[w.heap.size]? = some (.deferred (some [])) →
      c.wpIn F n P Q { a with defers := { target := .collected w.heap.size, args := #[] } :: a.defers } W) :
    (Code.rangeFunc g ps assign body).wpIn F n P Q a w := by
  refine wpIn_rangeFunc ?_
  intro fn hfn
  rw [hro]
  obtain ⟨rec, hrec⟩ : ∃ rec : LoopState → Option Code → Loop, rec = fun st pe => { state := st, pending := pe, fn, tmps := a.tmps, params := ps, assign, body, defers := w.heap.size } := ⟨_, rfl⟩
  obtain ⟨W1, hW1⟩ : ∃ W1, (w.alloc (.deferred (some []))).alloc (.loop (rec .ready none)) = W1 := ⟨_, rfl⟩
  have hL1 : W1.heap[w.heap.size + 1]? = some (.loop (rec .ready none)) := by
    rw [← hW1]; have := World.alloc_heap_new (w.alloc (.deferred (some []))) (.loop (rec .ready none)); rwa [World.size_alloc] at this
  have hK1 : W1.heap[w.heap.size]? = some (.deferred (some [])) := by
    rw [← hW1]; exact (Below.heap_alloc _ _ _ (by simp)).trans (World.alloc_heap_new w _)
  have hb1 : Below w.heap.size w W1 := by
    rw [← hW1]; exact ((Below.refl _ w).alloc (Nat.le_refl _) _).alloc (by simp) _
  have hs1 : W1.heap.size = w.heap.size + 2 := by rw [← hW1]; simp
  -- the books: the record, and the block for the rounds' deferred calls
  let bk : Option (LoopState × Option Code) → ((Nat → Prop) → List α → World → Prop) → (Nat → Prop) → List α → World → Prop := fun st K D s W =>
    ∃ D1, K D1 s W ∧ (∀ k, D k ↔ D1 k ∨ k = w.heap.size ∨ k = w.heap.size + 1) ∧ ¬ D1 w.heap.size ∧ ¬ D1 (w.heap.size + 1) ∧ (∀ k, D1 k → D0 k ∨ w.heap.size ≤ k) ∧
      (∃ st', (∀ s0, st = some s0 → st' = s0) ∧ W.heap[w.heap.size + 1]? = some (.loop (rec st'.1 st'.2))) ∧ W.heap[w.heap.size]? = some (.deferred (some []))
  have bkS : ∀ st K, Stable K → Stable (bk st K) := by
    rintro st K hK D s A B ⟨D1, k1, k2, k3, k4, k5, ⟨st', k6, k7⟩, k8⟩ hsz hsame
    exact ⟨D1, hK D1 s A B k1 hsz (fun k hk => hsame k ((k2 k).2 (.inl hk))), k2, k3, k4, k5, ⟨st', k6, (hsame _ ((k2 _).2 (.inr (.inr rfl)))).trans k7⟩, (hsame _ ((k2 _).2 (.inr (.inl rfl)))).trans k8⟩
  have bkL : ∀ st K, Lies K → Lies (bk st K) := by
    rintro st K hK D s A ⟨D1, k1, k2, k3, k4, k5, ⟨st', k6, k7⟩, k8⟩ k hk
    rcases (k2 k).1 hk with h | rfl | rfl
    · exact hK D1 s A k1 k h
    · exact (Array.getElem?_eq_some_iff.1 k8).1
    · exact (Array.getElem?_eq_some_iff.1 k7).1
  let J := bk (some (.ready, none)) I
  let Jx : (Nat → Prop) → List α → World → Prop := fun D s W => ∃ c, bk (some (.done, some c)) (Ix c) D s W
  have JS : Stable J := bkS _ _ hI
  have JL : Lies J := bkL _ _ hIL
  have JxS : Stable Jx := fun D s A B ⟨c, h⟩ hsz hsame => ⟨c, bkS _ _ (hX c) D s A B h hsz hsame⟩
  have JxL : Lies Jx := fun D s A ⟨c, h⟩ => bkL _ _ (hXL c) D s A h
  have n0 : ∀ {m : Nat}, F.depth.isSome = true → 1 ≤ m := fun h => by rw [h1] at h; cases h
  refine ⟨w.heap.size + 1, [{ target := .collected w.heap.size, args := #[] }], W1, { target := .fn (.func gf) lb, args := #[.func (.yield (w.heap.size + 1)) #[] #[]] }, W1, gf,
    #[.func (.yield (w.heap.size + 1)) #[] #[]] ++ lb, W1, ?_, ?_, ?_, ?_, n0, ?_⟩
  · rw [← hW1, hrec]; exact run_enterLoop_outer _ _ _ _ _
  · simp only [resolve, hg]
    simp [go_sem]
  · intro f' hf'; simp [Target.leads] at hf'; subst hf'; exact hFg
  · simp [invoke, go_sem, eg]
  · have hD0 : ∀ k, D0 k → k < w.heap.size := hIL D0 [] w h0
    have hJ0 : J (fun k => D0 k ∨ k = w.heap.size ∨ k = w.heap.size + 1) [] W1 :=
      ⟨D0, hI D0 [] w W1 h0 hb1.size (fun k hk => hb1.block k (hD0 k hk)), fun k => Iff.rfl, fun h => by have := hD0 _ h; omega, fun h => by have := hD0 _ h; omega, fun k h => .inl h, ⟨(.ready, none), fun s0 e => by cases e; rfl, hL1⟩, hK1⟩
    refine (hseq (w.heap.size + 1) J Jx (fun k => D0 k ∨ k = w.heap.size ∨ k = w.heap.size + 1) W1 JS JL JxS JxL (fun b e D s W h => by obtain ⟨D1, k1, _⟩ := h; exact hBd b e D1 s W k1) ?_ (hown W1 _ hb1 (fun k h => by rcases h with h | h | h; exact .inl h; exact .inr (by omega); exact .inr (by omega))) hJ0).mono ?_
    · -- one round
      rintro D pre x W ⟨D1, k1, k2, k3, k4, k5, ⟨st', k6, k7⟩, k8⟩ hnx
      obtain rfl : st' = (.ready, none) := k6 _ rfl
      have hlt : w.heap.size + 1 < W.heap.size := (Array.getElem?_eq_some_iff.1 k7).1
      have hy := run_yield (P := P) (args := encs x) k7 (by rw [hrec]; exact hps x)
      rw [hrec] at hy
      refine ⟨fn, _, assign, body, hy, roundIn_of_wpIn hfn (hassign _ x W _ ⟨_, run_beginRound k7 (by rw [hrec]), ?_⟩)⟩
      have hl2 : (W.putObj (w.heap.size + 1) (.loop { rec .ready none with state := .busy })).heap[w.heap.size + 1]? = some (.loop { rec .ready none with state := .busy }) := World.putObj_heap_same hlt
      have hk2 : (W.putObj (w.heap.size + 1) (.loop { rec .ready none with state := .busy })).heap[w.heap.size]? = some (.deferred (some [])) := (World.putObj_heap_other (by omega)).trans k8
      have hi2 : I D1 pre (W.putObj (w.heap.size + 1) (.loop { rec .ready none with state := .busy })) :=
        hI D1 pre W _ k1 (by simp) (fun k hk => World.putObj_heap_other (fun e => k4 (e ▸ hk)))
      refine wpIn_mono (hbody _ D1 pre x _ (by simp; omega) hi2 hnx) ?_
      have fin : ∀ (jump : Option Code) (K : (Nat → Prop) → List α → World → Prop) (hKS : Stable K) (hKL : Lies K) (W3 : World), Goes K D1 (pre ++ [x]) (W.putObj (w.heap.size + 1) (.loop { rec .ready none with state := .busy })) W3 →
          (Instr.endRound (w.heap.size + 1) jump).run P W3 = .ok (.bool jump.isNone) (W3.putObj (w.heap.size + 1) (.loop (rec (if jump.isNone then .ready else .done) jump))) ∧
          Goes (bk (some (if jump.isNone then .ready else .done, jump)) K) D (pre ++ [x]) W (W3.putObj (w.heap.size + 1) (.loop (rec (if jump.isNone then .ready else .done) jump))) := by
        rintro jump K hKS hKL W3 ⟨D', g1, g2, g3⟩
        simp only [World.putObj_size] at g3
        have hl3 := (g2.block (w.heap.size + 1) (by simp; omega) k4).trans hl2
        have hk3 := (g2.block w.heap.size (by simp; omega) k3).trans hk2
        have hlt3 := (Array.getElem?_eq_some_iff.1 hl3).1
        have hne : ∀ k, D' k → k ≠ w.heap.size + 1 := fun k hk e => by
          subst e; rcases g3 _ hk with h | h; exact k4 h; omega
        have hne0 : ∀ k, D' k → k ≠ w.heap.size := fun k hk e => by
          subst e; rcases g3 _ hk with h | h; exact k3 h; omega
        have hrun := run_endRound (P := P) jump hl3
        rw [hrec] at hrun ⊢
        refine ⟨hrun, fun k => D' k ∨ k = w.heap.size ∨ k = w.heap.size + 1, ⟨D', hKS D' _ W3 _ g1 (by simp) (fun k hk => World.putObj_heap_other (hne k hk)), fun k => Iff.rfl, fun h => hne0 _ h rfl, fun h => hne _ h rfl,
          fun k hk => ?_, ⟨(_, _), fun s0 e => by cases e; rfl, ?_⟩, ?_⟩, ?_, fun k hk => ?_⟩
        · rcases g3 k hk with h | h
          · exact k5 k h
          · exact .inr (by omega)
        · rw [hrec]; exact World.putObj_heap_same hlt3
        · exact (World.putObj_heap_other (by omega)).trans hk3
        · refine Fr.trans (Fr.putObj W _ _ (.inl ((k2 _).2 (.inr (.inr rfl))))) (Fr.trans (D := D) (g2.mono (fun k _ hk => (k2 k).2 (.inl hk))) (Fr.putObj W3 _ _ (.inl ((k2 _).2 (.inr (.inr rfl))))) (fun k h => .inl h)) (fun k h => .inl h)
        · rcases hk with h | rfl | rfl
          · rcases g3 k h with h' | h'
            · exact .inl ((k2 k).2 (.inl h'))
            · exact .inr h'
          · exact .inl ((k2 _).2 (.inr (.inl rfl)))
          · exact .inl ((k2 _).2 (.inr (.inr rfl)))
      have toX : ∀ c W3, Goes (bk (some (.done, some c)) (Ix c)) D (pre ++ [x]) W W3 → Goes Jx D (pre ++ [x]) W W3 := fun c W3 ⟨D', g1, g2, g3⟩ => ⟨D', ⟨c, g1⟩, g2, g3⟩
      rintro e a3 W3 hp
      cases e with
      | normal => obtain ⟨hr, hg⟩ := fin none I hI hIL W3 hp; exact ⟨_, _, hr, .inl ⟨rfl, hg⟩⟩
      | ret => obtain ⟨hr, hg⟩ := fin (some .ret) (Ix .ret) (hX _) (hXL _) W3 hp; exact ⟨_, _, hr, .inr ⟨rfl, toX _ _ hg⟩⟩
      | exit id => obtain ⟨hr, hg⟩ := fin (some (.exit id)) (Ix (.exit id)) (hX _) (hXL _) W3 hp; exact ⟨_, _, hr, .inr ⟨rfl, toX _ _ hg⟩⟩
      | goto t => obtain ⟨hr, hg⟩ := fin (some (.goto t)) (Ix (.goto t)) (hX _) (hXL _) W3 hp; exact ⟨_, _, hr, .inr ⟨rfl, toX _ _ hg⟩⟩
      | panic ch => exact hp.elim
      | outgrown => exact hp.elim
    · -- behind the iterator
      have fin : ∀ (st : LoopState) (pe : Option Code) (hst : st ≠ .busy) (K : (Nat → Prop) → List α → World → Prop) (hKS : Stable K) (s : List α) (W2 : World),
          Goes (bk (some (st, pe)) K) (fun k => D0 k ∨ k = w.heap.size ∨ k = w.heap.size + 1) s W1 W2 →
          ∃ W3, (Instr.endLoop (w.heap.size + 1)).run P W2 = .ok pe W3 ∧ ∃ D1, K D1 s W3 ∧ Fr D0 w W3 ∧ (∀ k, D1 k → D0 k ∨ w.heap.size ≤ k) ∧ ¬ D1 w.heap.size ∧ W3.heap[w.heap.size]? = some (.deferred (some [])) := by
        rintro st pe hst K hKS s W2 ⟨D', ⟨D1, k1, k2, k3, k4, k5, ⟨st', k6, k7⟩, k8⟩, g2, g3⟩
        obtain rfl : st' = (st, pe) := k6 _ rfl
        have hrun := run_endLoop (P := P) k7 (by rw [hrec]; exact hst)
        refine ⟨_, (by rw [hrec] at hrun; exact hrun), D1, hKS D1 s W2 _ k1 (by simp) (fun k hk => World.putObj_heap_other (by rintro rfl; exact k4 hk)), ?_, k5, k3, (World.putObj_heap_other (by omega)).trans k8⟩
        exact Fr.trans (Fr.trans (Fr.of_below hb1) g2 (fun k h => by rcases h with h | h | h; exact .inl h; exact .inr (by omega); exact .inr (by omega))) (Fr.putObj (D := fun k => k = w.heap.size + 1) W2 _ _ (.inl rfl)) (fun k h => .inr (by omega))
      rintro e W2 ⟨⟨v, rfl⟩, (⟨xs, hS, hg⟩ | ⟨pre, hg⟩)⟩
      · obtain ⟨W3, hr, D1, f1, f2, f3, f4, f5⟩ := fin .ready none (by simp) I hI xs W2 hg
        exact ⟨none, W3, hr, hdone D1 xs W3 hS f1 f2 f3 f4 f5⟩
      · obtain ⟨D', ⟨c, g1⟩, g2, g3⟩ := hg
        obtain ⟨W3, hr, D1, f1, f2, f3, f4, f5⟩ := fin .done (some c) (by simp) (Ix c) (hX c) pre W2 ⟨D', g1, g2, g3⟩
        exact ⟨some c, W3, hr, hstop D1 c pre W3 f1 f2 f3 f4 f5⟩

/-- The fence that lets all in (in a round, or not), under a name that the walk does not open. -/
def Wide (F : Fence) : Prop := F.plain = Fence.wide
theorem Wide.wide : Wide Fence.wide := rfl
theorem Wide.inRound (h : Wide F) (l : Nat) : Wide (F.inRound l) := h
theorem Wide.calls (h : Wide F) {m : Nat} {f : FuncId} {args : Array Value} {w : World} {R : Ending → World → Prop} (hc : Calls P f args w R) : CallsIn F m P f args w R := by
  have : CallsIn F.plain m P f args w R := by rw [h]; exact callsIn_wide.2 hc
  exact this
theorem Wide.fn (h : Wide F) (f : FuncId) : F.fn f := by
  have : F.plain.fn f := by rw [h]; trivial
  exact this
theorem Wide.depth (h : Wide F) : F.depth = none := by
  have : F.plain.depth = none := by rw [h]; rfl
  exact this

/-- Leaving with marks alone among the deferred calls: each block is shut, one step each. -/
theorem leaves_marks {fn : Func} {tmps : Array Value} {R : Ending → World → Prop} {v : Value} {D : Nat → Prop} : ∀ (ds : List Deferred) (w : World),
    (∀ d ∈ ds, ∃ r, d.target = .collected r ∧ D r ∧ w.heap[r]? = some (.deferred (some []))) → (ds.map (·.target)).Pairwise (fun a b => ∀ r, a = .collected r → b ≠ .collected r) →
    (∀ w', Fr D w w' → (results fn tmps).run P w' = .ok v w' ∧ R (.returned v) w') → LeavesInM F n P fn tmps R ds .returning w := by
  intro ds
  induction ds with
  | nil =>
    intro w _ _ hR
    obtain ⟨h1, h2⟩ := hR w (Fr.refl _ _)
    exact ⟨v, h1, h2⟩
  | cons d ds ih =>
    intro w hd hp hR
    obtain ⟨r, e, hDr, hr⟩ := hd d (by simp)
    refine ⟨by simp, .inl ⟨r, _, e, run_takeDeferred hr, ih _ (fun d' hd' => ?_) (List.pairwise_cons.1 hp).2 (fun w' hf => hR w' (Fr.trans (Fr.putObj w r _ (.inl hDr)) hf (fun k h => .inl h)))⟩⟩
    obtain ⟨r', e', hDr', hr'⟩ := hd d' (by simp [hd'])
    have hne : r' ≠ r := fun h => by
      have := (List.pairwise_cons.1 hp).1 d'.target (List.mem_map_of_mem hd') r e
      exact this (h ▸ e')
    exact ⟨r', e', hDr', (World.putObj_heap_other hne).trans hr'⟩
end Go.Proofs.YtkfbdhlfajdpgaaGreatDoor.HIter
