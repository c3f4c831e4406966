/- slices.CompactFunc over the rows that are put out. -/
import Derived.Test.YtkfbdhlfajdpgaaGreatDoorHSteps
namespace Go.Proofs.YtkfbdhlfajdpgaaGreatDoor.HSteps
set_option linter.unusedVariables false
set_option linter.unusedSimpArgs false
open Go Go.RowKit Go.Shelf Go.Lib Go.Sort Go.Proofs Go.Proofs.YtkfbdhlfajdpgaaGreatDoor.HIter Go.Proofs.YtkfbdhlfajdpgaaGreatDoor.HNim Go.Proofs.YtkfbdhlfajdpgaaGreatDoor.HRowOps Go.Proofs.YtkfbdhlfajdpgaaGreatDoor.HCompare Go.Proofs.YtkfbdhlfajdpgaaGreatDoor.HCompact

theorem allEq_beq : ∀ a b : List Int, allEq (fun x y => x == y) a b = decide (a = b)
  | [], [] => by simp [allEq]
  | [], _ :: _ => by simp [allEq]
  | _ :: _, [] => by simp [allEq]
  | x :: a, y :: b => by
    rw [allEq, allEq_beq a b]
    by_cases h : x = y
    · subst h; simp
    · simp [h]

theorem equal_calls (a b : List Int) (g1 c1 g2 c2 : Nat) (w : World) (ha : a.length ≤ 1000000) (hb : b.length ≤ 1000000) (r1 : RI w g1 a) (r2 : RI w g2 b) :
    Calls Tryz.prog 24 #[.slice (some ⟨g1, 0, none⟩) a.length c1, .slice (some ⟨g2, 0, none⟩) b.length c2] w fun e w' => e = .returned (.bool (decide (a = b))) ∧ ∃ q, w' = w.drewN q := by
  have h := Tryz.slices_Equal (α := Int) iv (fun x y => x == y) (NeqAt.int _ _ _) g1 0 a.length c1 g2 0 b.length c2 a b w (Nat.le_refl _) (Nat.le_refl _) (by omega) (by omega)
    (fun j hj => by rw [Nat.zero_add, r1 j hj, List.getElem?_eq_getElem hj, getElem!_pos a j hj]; rfl) (fun j hj => by rw [Nat.zero_add, r2 j hj, List.getElem?_eq_getElem hj, getElem!_pos b j hj]; rfl)
  rw [List.take_length, List.take_length, allEq_beq] at h
  exact h

/-- What is kept, told by lists. -/
theorem kept_map {α : Type} [Inhabited α] (key : α → List Int) (d : Array α) (hd : 0 < d.size) : ∀ m : Nat, m + 1 ≤ d.size →
    ∃ p rest : List (List Int), (keptUpTo (keepsBy (fun x y => decide (key x = key y)) d) d (m + 1)).map key = p ∧ dedup (d.toList.map key) = p ++ rest ∧ rest = dgo (key d[m]!) ((d.toList.drop (m + 1)).map key)
  | 0, h => by
    obtain ⟨x, l, hl⟩ : ∃ x l, d.toList = x :: l := by
      cases hc : d.toList with
      | nil => have : d.size = 0 := by simpa using congrArg List.length hc
               omega
      | cons x l => exact ⟨x, l, rfl⟩
    have hx : d[0]! = x := by
      rw [getElem!_pos d 0 hd]
      have : d.toList[0]'(by simpa using hd) = x := by simp [hl]
      simpa using this
    refine ⟨[key x], dgo (key x) (l.map key), ?_, ?_, ?_⟩
    · rw [keptUpTo_succ]
      simp [keptUpTo, keepsBy, hx]
    · rw [hl]; rfl
    · rw [hx, hl]; rfl
  | m + 1, h => by
    obtain ⟨p, rest, h1, h2, h3⟩ := kept_map key d hd m (by omega)
    have hm : m + 1 < d.size := by omega
    have hdr : d.toList.drop (m + 1) = d[m + 1]! :: d.toList.drop (m + 1 + 1) := by
      rw [List.drop_eq_getElem_cons (by simpa using hm), getElem!_pos d (m + 1) hm]
      simp
    rw [hdr, List.map_cons, dgo] at h3
    by_cases e : key d[m + 1]! = key d[m]!
    · refine ⟨p, rest, ?_, h2, ?_⟩
      · rw [keptUpTo_succ, keepsBy_neg (by omega) (by simpa using e)]
        simpa using h1
      · rw [if_pos e] at h3; exact h3
    · rw [if_neg e] at h3
      refine ⟨p ++ [key d[m + 1]!], _, ?_, ?_, rfl⟩
      · rw [keptUpTo_succ, keepsBy_pos (by simpa using e), List.map_append, h1]; rfl
      · rw [h2, h3]; simp
theorem kept_dedup {α : Type} [Inhabited α] (key : α → List Int) (d : Array α) : (keptUpTo (keepsBy (fun x y => decide (key x = key y)) d) d d.size).map key = dedup (d.toList.map key) := by
  by_cases hd : d.size = 0
  · have : d = #[] := Array.eq_empty_of_size_eq_zero hd
    subst this
    rfl
  · obtain ⟨p, rest, h1, h2, h3⟩ := kept_map key d (by omega) (d.size - 1) (by omega)
    rw [show d.size - 1 + 1 = d.size by omega] at h1 h3
    rw [List.drop_eq_nil_of_le (by simp)] at h3
    rw [h1, h2, h3]
    simp [dgo]
theorem kept_sub {α : Type} [Inhabited α] (kp : Nat → Bool) (d : Array α) : (keptUpTo kp d d.size).Sublist d.toList := by
  have h : (keptUpTo kp d d.size).Sublist ((List.range d.size).map (d[·]!)) := by
    unfold keptUpTo
    exact (List.filter_sublist).map _
  rwa [range_map_get] at h

set_option maxHeartbeats 2000000 in
theorem compact_none (p : Option Addr) (cap : Nat) (fv : Value) (w : World) :
    Calls Tryz.prog 23 #[.slice p 0 cap, fv] w fun e w' => e = .returned (.slice p 0 cap) ∧ w' = w := by
  go_enter Tryz.func23, Tryz.ntmps23
  go_wp2
  go_ret
  exact ⟨rfl, rfl⟩

/-- What may stand in the row while it is made compact: a row elsewhere, or nil. -/
def encO {W : World} {g : Nat} (x : Option (El W g)) : Value := match x with | none => .slice none 0 0 | some y => encE y.1
def keyO {W : World} {g : Nat} (x : Option (El W g)) : List Int := match x with | none => [] | some y => y.1.2.2

set_option maxHeartbeats 2000000 in
theorem equal_none (b : List Int) (g2 c2 : Nat) (w : World) (r2 : RI w g2 b) (hb : b.length ≤ 1000000) :
    (Calls Tryz.prog 24 #[.slice none 0 0, .slice (some ⟨g2, 0, none⟩) b.length c2] w fun e w' => e = .returned (.bool (decide ([] = b))) ∧ w' = w) ∧
    (Calls Tryz.prog 24 #[.slice (some ⟨g2, 0, none⟩) b.length c2, .slice none 0 0] w fun e w' => e = .returned (.bool (decide (b = []))) ∧ w' = w) ∧
    (Calls Tryz.prog 24 #[.slice none 0 0, .slice none 0 0] w fun e w' => e = .returned (.bool true) ∧ w' = w) := by
  clear r2
  have hcase : (b = [] ∧ b.length = 0) ∨ (b ≠ [] ∧ 0 < b.length) := by
    cases b with
    | nil => exact .inl ⟨rfl, rfl⟩
    | cons x l => exact .inr ⟨by simp, by simp⟩
  refine ⟨?_, ?_, ?_⟩
  · rcases hcase with ⟨h1, h2⟩ | ⟨h1, h2⟩
    · rw [h2, show decide ([] = b) = true from by simp [h1]]
      clear h1
      go_enter Tryz.func24, Tryz.ntmps24
      go_wp2
      refine wp_loop_rounds 1 ?_
      rw [rounds_succ]
      go_wp2
      go_ret
      exact ⟨rfl, rfl⟩
    · rw [show decide ([] = b) = false from by simpa using Ne.symm h1]
      generalize b.length = m at *
      clear h1
      have hne : ((0 : Int) != (m : Int)) = true := by simp; omega
      go_enter Tryz.func24, Tryz.ntmps24
      go_wp2
      go_ret
      exact ⟨rfl, rfl⟩
  · rcases hcase with ⟨h1, h2⟩ | ⟨h1, h2⟩
    · rw [h2, show decide (b = []) = true from by simp [h1]]
      clear h1
      go_enter Tryz.func24, Tryz.ntmps24
      go_wp2
      refine wp_loop_rounds 1 ?_
      rw [rounds_succ]
      go_wp2
      go_ret
      exact ⟨rfl, rfl⟩
    · rw [show decide (b = []) = false from by simpa using h1]
      generalize b.length = m at *
      clear h1
      have hne : ((m : Int) != (0 : Int)) = true := by simp; omega
      go_enter Tryz.func24, Tryz.ntmps24
      go_wp2
      go_ret
      exact ⟨rfl, rfl⟩
  · go_enter Tryz.func24, Tryz.ntmps24
    go_wp2
    refine wp_loop_rounds 1 ?_
    rw [rounds_succ]
    go_wp2
    go_ret
    exact ⟨rfl, rfl⟩

theorem eq_lays (W : World) (g off size : Nat) [Inhabited (Option (El W g))] (dk : Array (Option (El W g))) (x y : Option (El W g)) (q : Nat) :
    Calls Tryz.prog 24 (#[encO x, encO y] ++ #[]) (putRow encO (Sort.ahead W q) g off dk) fun e w' => e = .returned (.bool (decide (keyO x = keyO y))) ∧ ∃ qq, w' = (putRow encO (Sort.ahead W q) g off dk).drewN qq := by
  have hf : Fr (fun k => k = g) W (putRow encO (Sort.ahead W q) g off dk) := Fr.put _ _ _ _ _
  have hr : ∀ z : El W g, RI (putRow encO (Sort.ahead W q) g off dk) z.1.1 z.1.2.2 := fun z => ri_of (z.2.1.fr hf z.2.2.1)
  cases x with
  | none =>
    cases y with
    | none =>
      refine (equal_none [] 0 0 _ (fun j hj => by simp at hj) (by simp)).2.2.mono ?_
      rintro e w' ⟨rfl, rfl⟩
      exact ⟨by simp, 0, rfl⟩
    | some y =>
      refine (equal_none y.1.2.2 y.1.1 y.1.2.1 _ (hr y) y.2.2.2).1.mono ?_
      rintro e w' ⟨rfl, rfl⟩
      exact ⟨rfl, 0, rfl⟩
  | some x =>
    cases y with
    | none =>
      refine (equal_none x.1.2.2 x.1.1 x.1.2.1 _ (hr x) x.2.2.2).2.1.mono ?_
      rintro e w' ⟨rfl, rfl⟩
      exact ⟨rfl, 0, rfl⟩
    | some y => exact equal_calls x.1.2.2 y.1.2.2 x.1.1 x.1.2.1 y.1.1 y.1.2.1 _ x.2.2.2 y.2.2.2 (hr x) (hr y)

set_option maxHeartbeats 2000000 in
theorem compactOut (base : Nat) (w : World) (v : Value) (es : List Ent) (h : OutS base w v es) (hn : es.length ≤ 100000000) :
    Calls Tryz.prog 23 #[v, .func (.func 24) #[] #[]] w fun e w' => ∃ v' es', e = .returned v' ∧ OutS base w' v' es' ∧ es'.map (fun e => e.2.2) = dedup (es.map (fun e => e.2.2)) ∧ Fr (fun k => v.ownBlock = some k) w w' := by
  rcases h.cases with ⟨rfl, rfl⟩ | ⟨g, cap, rfl, hb, hr⟩
  · refine (compact_none none 0 _ w).mono ?_
    rintro e w' ⟨rfl, rfl⟩
    exact ⟨_, [], rfl, h, rfl, Fr.refl _ _⟩
  · have hg := hr.lt
    obtain ⟨cur, hcur, _⟩ := id hr
    have hel : ∀ e ∈ es, Row w 3 e.1 e.2.1 (e.2.2.map iv) ∧ e.1 ≠ g ∧ e.2.2.length ≤ 1000000 := fun e hm => ⟨(h.fits e hm).2.1, (h.fits e hm).ne hcur (by decide), (h.fits e hm).2.2⟩
    obtain ⟨ls, hls⟩ : ∃ ls : List (El w g), ls.map (·.1) = es := ⟨es.attach.map (fun x => ⟨x.1, hel x.1 x.2⟩), by rw [List.map_map]; exact List.attach_map_subtype_val es⟩
    have hll : ls.length = es.length := by rw [← hls, List.length_map]
    obtain ⟨lo, hlo⟩ : ∃ lo : List (Option (El w g)), lo = ls.map some := ⟨_, rfl⟩
    have hol : lo.length = es.length := by rw [hlo, List.length_map, hll]
    have hen : es.map encE = lo.map encO := by rw [← hls, hlo, List.map_map, List.map_map]; rfl
    rw [hen] at hr
    have hle := hr.le
    rw [List.length_map, hol] at hle
    have hc := compactFunc (α := Option (El w g)) encO (fun x => by cases x <;> rfl) (fun x y => decide (keyO x = keyO y)) 24 #[] enters23 g 0 cap lo.toArray w (fun dk x y q _ => eq_lays w g 0 0 dk x y q) none rfl hr.holds (by simp; omega) (by simpa [hol] using hle)
    simp only [List.size_toArray, hol] at hc
    refine hc.mono ?_
    rintro e w' ⟨rfl, q, rfl⟩
    obtain ⟨K, hK⟩ : ∃ K, keptUpTo (keepsBy (fun x y => decide (keyO x = keyO y)) lo.toArray) lo.toArray lo.toArray.size = K := ⟨_, rfl⟩
    have hsub := kept_sub (keepsBy (fun (x y : Option (El w g)) => decide (keyO x = keyO y)) lo.toArray) lo.toArray
    have hkey := kept_dedup (keyO (W := w) (g := g)) lo.toArray
    rw [hK] at hsub hkey
    simp only [List.size_toArray, hol] at hK
    rw [hK]
    simp only [List.toList_toArray] at hsub hkey
    have hKl : K.length ≤ es.length := by rw [← hol]; exact hsub.length_le
    -- what is kept are elements
    obtain ⟨ks, hks, hks2⟩ : ∃ ks : List (El w g), K = ks.map some ∧ ks.Sublist ls := by
      rw [hlo] at hsub
      obtain ⟨ks, h1, h2⟩ := List.sublist_map_iff.1 hsub
      exact ⟨ks, h2, h1⟩
    have hf : Fr (fun k => k = g) w (putRow encO (Sort.ahead w q) g 0 (K ++ List.replicate (es.length - K.length) none).toArray) := Fr.put _ _ _ _ _
    refine ⟨_, ks.map (·.1), rfl, ⟨?_, ?_, ?_⟩, ?_, hf.mono (fun k _ h => by simp [Value.ownBlock, h])⟩
    · have h1 := (hr.ahead q).put (l' := K ++ List.replicate (es.length - K.length) none) (by rw [List.length_append, List.length_replicate, hol]; omega)
      rw [List.map_append] at h1
      have h2 := h1.cut.owns hb
      have e1 : (ks.map (·.1)).map encE = K.map encO := by rw [hks, List.map_map, List.map_map]; rfl
      have e2 : (ks.map (·.1)).length = K.length := by rw [hks, List.length_map, List.length_map]
      rw [e1, e2]
      rwa [List.length_map] at h2
    · intro e hm
      obtain ⟨x, hx, rfl⟩ := List.mem_map.1 hm
      have : x.1 ∈ es := by rw [← hls]; exact List.mem_map_of_mem (hks2.subset hx)
      exact (h.fits _ this).fr hf x.2.2.1
    · have := ((hks2.map (·.1)).map (·.1)).nodup (by rw [hls]; exact h.nodup)
      exact this
    · have e1 : (ks.map (·.1)).map (fun e => e.2.2) = K.map keyO := by rw [hks, List.map_map, List.map_map]; rfl
      have e2 : es.map (fun e => e.2.2) = lo.map keyO := by rw [hlo, ← hls, List.map_map, List.map_map]; rfl
      rw [e1, e2, hkey]
end Go.Proofs.YtkfbdhlfajdpgaaGreatDoor.HSteps
