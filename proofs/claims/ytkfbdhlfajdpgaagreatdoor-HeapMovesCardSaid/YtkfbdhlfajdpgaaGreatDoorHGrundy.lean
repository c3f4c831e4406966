/- The values of heaps, in plain words. -/
import Derived.Test.YtkfbdhlfajdpgaaGreatDoorHSpec
import Derived.Test.YtkfbdhlfajdpgaaGreatDoorUBits
namespace Go.Proofs.YtkfbdhlfajdpgaaGreatDoor.HSpec
set_option linter.unusedVariables false
set_option linter.unusedSimpArgs false
open Go Go.Proofs.YtkfbdhlfajdpgaaGreatDoor.UBits

def xr (a b : Int) : Int := bits .xor .i64 a b
/-- The least number from 0 on that is none of some numbers. -/
def mexN (l : List Int) : Nat := ((List.range (l.length + 1)).find? (fun k => !l.contains ((k : Nat) : Int))).getD 0
def at0 (l : List Int) (i : Int) : Int := l.getD i.toNat 0
def optv (known : List Int) (p : Int × Int) : Int := xr (at0 known p.1) (at0 known p.2)
def opts (d known : List Int) : List Int := (mv d known.length).map (optv known)
def vstep (d known : List Int) : List Int := known ++ [(mexN (opts d known) : Int)]
def vals (d : List Int) : Nat → List Int
  | 0 => [0]
  | n + 1 => vstep d (vals d n)

theorem nodup_sub : ∀ (a b : List Int), a.Nodup → (∀ x ∈ a, x ∈ b) → a.length ≤ b.length
  | [], _, _, _ => Nat.zero_le _
  | x :: a, b, h, hs => by
    obtain ⟨h1, h2⟩ := List.nodup_cons.1 h
    have := nodup_sub a (b.erase x) h2 (fun y hy => (List.mem_erase_of_ne (by rintro rfl; exact h1 hy)).2 (hs y (List.mem_cons_of_mem _ hy)))
    have hx := hs x (List.mem_cons_self ..)
    have hl := List.length_erase_of_mem hx
    have := List.length_pos_of_mem hx
    simp only [List.length_cons]
    omega
/-- Some number among the first is missing: a list of n numbers can't hold 0, .., n. -/
theorem pigeon (l : List Int) : ∀ n : Nat, (∀ k : Nat, k < n → (k : Int) ∈ l) → n ≤ l.length := by
  intro n h
  have h1 : ((List.range n).map (fun k : Nat => (k : Int))).Nodup := by
    rw [List.Nodup, List.pairwise_map]
    exact List.nodup_range.imp (fun hne e => hne (by omega))
  have h2 : (List.range n).map (fun k : Nat => (k : Int)) ⊆ l := by
    intro x hx
    obtain ⟨k, hk, rfl⟩ := List.mem_map.1 hx
    exact h k (List.mem_range.1 hk)
  have := nodup_sub _ _ h1 (fun x hx => h2 hx)
  simpa using this

theorem mexN_spec (l : List Int) : (mexN l : Int) ∉ l ∧ (∀ k : Nat, k < mexN l → (k : Int) ∈ l) := by
  have hex : ∃ k, k ∈ List.range (l.length + 1) ∧ (!l.contains ((k : Nat) : Int)) = true := by
    refine Classical.byContradiction fun hn => ?_
    have hall : ∀ k : Nat, k < l.length + 1 → (k : Int) ∈ l := fun k hk => by
      refine Classical.byContradiction fun hm => hn ⟨k, List.mem_range.2 hk, by simpa using hm⟩
    have := pigeon l _ hall
    omega
  unfold mexN
  cases hf : (List.range (l.length + 1)).find? (fun k => !l.contains ((k : Nat) : Int)) with
  | none =>
    obtain ⟨k, hk, hc⟩ := hex
    have := List.find?_eq_none.1 hf k hk
    exact absurd hc this
  | some k =>
    have h1 := List.find?_some hf
    refine ⟨by simpa using h1, fun j hj => ?_⟩
    obtain ⟨hp, as, bs, hab, hbef⟩ := List.find?_eq_some_iff_append.1 hf
    have hjm : j ∈ as := by
      have hlen : as.length = k := by
        have hk2 : (List.range (l.length + 1))[as.length]? = some k := by rw [hab]; simp
        have := List.getElem?_eq_some_iff.1 hk2
        obtain ⟨hlt, he⟩ := this
        simpa using he
      have hj2 : (List.range (l.length + 1))[j]? = as[j]? := by rw [hab, List.getElem?_append_left (by rw [hlen]; simpa using hj)]
      have hlt : j < as.length := by rw [hlen]; simpa using hj
      have hle : as.length < (List.range (l.length + 1)).length := by rw [hab]; simp
      have e1 : (List.range (l.length + 1))[j]? = some j := by
        rw [List.getElem?_range (by simp at hle; omega)]
      rw [hj2] at e1
      exact List.mem_of_getElem? e1
    have := hbef j hjm
    simpa using this

theorem mexN_le (l : List Int) (B : Nat) (h : ∀ x ∈ l, x < (B : Int)) : mexN l ≤ B := by
  rcases Nat.lt_or_ge B (mexN l) with hlt | hge
  · have := h _ ((mexN_spec l).2 B hlt)
    omega
  · exact hge

/-- It is the only such number. -/
theorem mexN_unique (l : List Int) (n : Nat) (h1 : (n : Int) ∉ l) (h2 : ∀ k : Nat, k < n → (k : Int) ∈ l) : mexN l = n := by
  obtain ⟨g1, g2⟩ := mexN_spec l
  rcases Nat.lt_trichotomy (mexN l) n with h | h | h
  · exact absurd (h2 _ h) g1
  · exact h
  · exact absurd (g2 _ h) h1

theorem vals_length (d : List Int) (n : Nat) : (vals d n).length = n + 1 := by
  induction n with
  | zero => rfl
  | succ n ih => simp [vals, vstep, ih]

theorem vals_prefix (d : List Int) {n m : Nat} (h : n ≤ m) : ∃ r, vals d m = vals d n ++ r := by
  induction m with
  | zero => obtain rfl : n = 0 := by omega
            exact ⟨[], by simp⟩
  | succ m ih =>
    by_cases e : n = m + 1
    · subst e; exact ⟨[], by simp⟩
    · obtain ⟨r, hr⟩ := ih (by omega)
      exact ⟨r ++ [(mexN (opts d (vals d m)) : Int)], by rw [vals, vstep, hr]; simp⟩

theorem mem_prs {left : Int} {k : Nat} {p : Int × Int} (h : p ∈ prs left k) : 1 ≤ p.1 ∧ p.1 ≤ k ∧ p.2 = left - p.1 := by
  unfold prs at h
  obtain ⟨j, hj, rfl⟩ := List.mem_map.1 h
  have := List.mem_range.1 hj
  exact ⟨by simp only; omega, by simp only; omega, rfl⟩

theorem mem_mvAt {digit left : Int} {p : Int × Int} (h : p ∈ mvAt digit left) : 0 ≤ left ∧ 0 ≤ p.1 ∧ 0 ≤ p.2 ∧ p.1 + p.2 = left := by
  unfold mvAt at h
  split at h
  · simp at h
  · split at h
    · split at h
      · simp at h
      · simp at h; subst h; simp; omega
    · rcases List.mem_append.1 h with h | h
      · split at h
        · simp at h
        · simp at h; subst h; simp; omega
      · split at h
        · simp at h
        · have := mem_prs h
          refine ⟨by omega, by omega, by omega, by omega⟩

theorem mem_mv {d : List Int} {m : Int} {p : Int × Int} (h : p ∈ mv d m) : 0 ≤ p.1 ∧ 0 ≤ p.2 ∧ p.1 + p.2 < m := by
  unfold mv mvs at h
  obtain ⟨i, hi, hp⟩ := List.mem_flatMap.1 h
  have := mem_mvAt hp
  omega

/-- Values are from 0 on, and at most as great as the heap. -/
def Good (l : List Int) : Prop := ∀ i : Nat, i < l.length → 0 ≤ l.getD i 0 ∧ l.getD i 0 ≤ i
theorem Good.at0 {l : List Int} (h : Good l) {i : Int} (h0 : 0 ≤ i) (h1 : i < l.length) : 0 ≤ at0 l i ∧ at0 l i ≤ i := by
  have := h i.toNat (by omega)
  unfold HSpec.at0
  omega

theorem optv_bound {d known : List Int} (hg : Good known) (hl : known.length ≤ 1000000) {p : Int × Int} (hp : p ∈ mv d known.length) : 0 ≤ optv known p ∧ optv known p < known.length := by
  obtain ⟨h1, h2, h3⟩ := mem_mv hp
  have a := hg.at0 h1 (by omega)
  have b := hg.at0 h2 (by omega)
  have := xor_bound a.1 b.1 (by omega) (by omega)
  unfold optv xr
  omega

theorem vals_good (d : List Int) (n : Nat) (hn : n ≤ 100000) : Good (vals d n) := by
  induction n with
  | zero => intro i hi; obtain rfl : i = 0 := by simp [vals] at hi; omega
            simp [vals]
  | succ n ih =>
    have ih := ih (by omega)
    have hlen := vals_length d n
    intro i hi
    rw [vals_length] at hi
    by_cases e : i < n + 1
    · have := ih i (by omega)
      rw [vals, vstep, List.getD_eq_getElem?_getD, List.getElem?_append_left (by omega), ← List.getD_eq_getElem?_getD]
      exact this
    · obtain rfl : i = n + 1 := by omega
      have hm := mexN_le (opts d (vals d n)) (n + 1) (fun x hx => by
        obtain ⟨p, hp, rfl⟩ := List.mem_map.1 hx
        have := (optv_bound ih (by omega) hp).2
        rw [hlen] at this; exact_mod_cast this)
      have e : (vals d (n + 1)).getD (n + 1) 0 = (mexN (opts d (vals d n)) : Int) := by
        rw [vals, vstep, List.getD_eq_getElem?_getD, List.getElem?_append_right (by omega), hlen]; simp
      rw [e]
      omega
end Go.Proofs.YtkfbdhlfajdpgaaGreatDoor.HSpec
