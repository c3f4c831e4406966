/- A fuelled function from some fuel on. What Check says, and list, at a code; code makes a code of any string. The theorem of Sprague and Grundy, for heaps: no program in sight. HeapWins: the plain law: what it computes is true, whatever the input. -/
import Derived.RowKit
import Derived.Test.YtkfbdhlfajdpgaaDoorPHeapWinsx
import Derived.Test.YtkfbdhlfajdpgaaDoorHNim
import Derived.Test.YtkfbdhlfajdpgaaDoorHInP
namespace Go.Proofs.YtkfbdhlfajdpgaaDoor.UEv
set_option linter.unusedVariables false
open Go Go.RowKit

def Evt {α : Type} (f : Nat → Option α) (r : α) : Prop := ∃ K, ∀ k, K ≤ k → f k = some r
variable {α β : Type}
theorem Evt.const (r : α) : Evt (fun _ => some r) r := ⟨0, fun _ _ => rfl⟩
theorem Evt.step {f g : Nat → Option α} {r : α} (h : ∀ k, f (k + 1) = g k) (hg : Evt g r) : Evt f r := by
  obtain ⟨K, hK⟩ := hg
  refine ⟨K + 1, fun k hk => ?_⟩
  obtain ⟨j, rfl⟩ : ∃ j, k = j + 1 := ⟨k - 1, by omega⟩
  rw [h]; exact hK j (by omega)
theorem Evt.unstep {f g : Nat → Option α} {r : α} (h : ∀ k, f (k + 1) = g k) (hf : Evt f r) : Evt g r := by
  obtain ⟨K, hK⟩ := hf
  exact ⟨K, fun k hk => by rw [← h]; exact hK (k + 1) (by omega)⟩
theorem Evt.pos {c : Prop} [Decidable c] {f g : Nat → Option α} {r : α} (h : c) (hf : Evt f r) : Evt (fun k => if c then f k else g k) r := by
  simp only [if_pos h]; exact hf
theorem Evt.neg {c : Prop} [Decidable c] {f g : Nat → Option α} {r : α} (h : ¬ c) (hf : Evt g r) : Evt (fun k => if c then f k else g k) r := by
  simp only [if_neg h]; exact hf
theorem Evt.bind {f : Nat → Option α} {a : α} {g : Nat → α → Option β} {r : β} (hf : Evt f a) (hg : Evt (fun k => g k a) r) : Evt (fun k => (f k).bind (g k)) r := by
  obtain ⟨K, hK⟩ := hf
  obtain ⟨L, hL⟩ := hg
  exact ⟨max K L, fun k hk => by simp only [hK k (by omega), Option.bind_some]; exact hL k (by omega)⟩
theorem Evt.uniq {f : Nat → Option α} {a b : α} (h : Evt f a) (g : Evt f b) : a = b := by
  obtain ⟨K, hK⟩ := h
  obtain ⟨L, hL⟩ := g
  exact Option.some.inj ((hK (max K L) (by omega)).symm.trans (hL (max K L) (by omega)))
theorem Evt.of_eq {f g : Nat → Option α} {r : α} (h : ∀ k, f k = g k) (hg : Evt g r) : Evt f r := by
  obtain ⟨K, hK⟩ := hg
  exact ⟨K, fun k hk => by rw [h]; exact hK k hk⟩
theorem Evt.get {f : Nat → Option α} {r : α} (h : Evt f r) : ∃ k, f k = some r := ⟨h.choose, h.choose_spec _ (Nat.le_refl _)⟩
theorem w64 {x : Int} (h1 : -9223372036854775808 ≤ x) (h2 : x ≤ 9223372036854775807) : wrap64 x = x := by unfold wrap64; omega
end Go.Proofs.YtkfbdhlfajdpgaaDoor.UEv
namespace Go.Proofs.YtkfbdhlfajdpgaaDoor.PHeapWins
set_option linter.unusedVariables false
set_option linter.unusedSimpArgs false
open Go Go.RowKit Go.Proofs.YtkfbdhlfajdpgaaDoorW.PrintWords Go.Proofs.YtkfbdhlfajdpgaaDoorW.PrintLast Go.Proofs.YtkfbdhlfajdpgaaDoorW.PrintMore Go.Proofs.YtkfbdhlfajdpgaaDoor.UEv Go.Proofs.YtkfbdhlfajdpgaaDoor.HSpec Go.Proofs.YtkfbdhlfajdpgaaDoor.HCode Go.Proofs.YtkfbdhlfajdpgaaDoor.HValues Go.Proofs.YtkfbdhlfajdpgaaDoor.HList Go.Proofs.YtkfbdhlfajdpgaaDoor.UBits

structure okc (c : ByteArray) : Prop where
  code : isCode c = true
  size : c.size ≤ 10
  head : (c.extract 0 2).toList = [48, 46]

theorem dropWhile_all {α : Type} (p : α → Bool) : ∀ l : List α, (∀ b ∈ l, p b = true) → l.dropWhile p = []
  | [], _ => rfl
  | x :: l, h => by
    rw [List.dropWhile_cons, if_pos (h x (by simp))]
    exact dropWhile_all p l (fun b hb => h b (by simp [hb]))

theorem check_ok {c : ByteArray} (h : okc c) : heap_Check.f c = some 0 := by
  have hc := isCode_of h.code
  have hsz := hc.two
  have hps := hc.pos
  have hle := h.size
  have hP : stringslite_HasPrefix.f c (⟨#[48, 46]⟩ : ByteArray) = some true := by
    unfold stringslite_HasPrefix.f
    have e2 : (⟨#[48, 46]⟩ : ByteArray).size = 2 := rfl
    rw [e2, if_pos (by omega), if_pos (by omega), if_pos (by omega)]
    have : (((2 : Nat) : Int) : Int).toNat = 2 := rfl
    rw [this, h.head]
    exact congrArg some (by kernel_rfl)
  have hC : strings_CutPrefix.f c (⟨#[48, 46]⟩ : ByteArray) = some (c.extract 2 c.size, true) := by
    unfold strings_CutPrefix.f stringslite_CutPrefix.f
    rw [hP]
    simp only [Option.bind_some, if_true]
    have e2 : (⟨#[48, 46]⟩ : ByteArray).size = 2 := rfl
    rw [e2, if_pos (by omega), if_pos (by omega)]
    rfl
  have hex : (c.extract 2 c.size).size = (digs c).length := by rw [ByteArray.size_extract]; omega
  unfold heap_Check.f
  rw [hC]
  simp only [Option.bind_some, if_true]
  rw [if_neg (by omega), if_neg (by omega)]
  have hT : strings_Trim.f (c.extract 2 c.size) (⟨#[48, 49, 50, 51, 52, 53, 54, 55]⟩ : ByteArray) = some ⟨#[]⟩ := by
    unfold strings_Trim.f
    rw [if_pos ⟨by kernel_rfl, of_decide_eq_true (by kernel_rfl), by omega⟩]
    have hall := h.code
    unfold isCode at hall
    simp only [Bool.and_eq_true, decide_eq_true_eq] at hall
    have hall := hall.2
    have hr : Lib.trimRightS (c.extract 2 c.size).data.toList (⟨#[48, 49, 50, 51, 52, 53, 54, 55]⟩ : ByteArray).data.toList = [] := by
      unfold Lib.trimRightS
      rw [List.reverse_eq_nil_iff]
      refine dropWhile_all _ _ (fun b hb => ?_)
      have hb' := List.all_eq_true.1 hall b (List.mem_reverse.1 hb)
      simp only [Bool.and_eq_true, decide_eq_true_eq] at hb'
      have : b = 48 ∨ b = 49 ∨ b = 50 ∨ b = 51 ∨ b = 52 ∨ b = 53 ∨ b = 54 ∨ b = 55 := by
        have e : ∀ n : Nat, b.toNat = n → b = UInt8.ofNat n := fun n hn => by rw [← hn]; simp
        have : b.toNat = 48 ∨ b.toNat = 49 ∨ b.toNat = 50 ∨ b.toNat = 51 ∨ b.toNat = 52 ∨ b.toNat = 53 ∨ b.toNat = 54 ∨ b.toNat = 55 := by omega
        rcases this with h | h | h | h | h | h | h | h
        · exact .inl (e _ h)
        · exact .inr (.inl (e _ h))
        · exact .inr (.inr (.inl (e _ h)))
        · exact .inr (.inr (.inr (.inl (e _ h))))
        · exact .inr (.inr (.inr (.inr (.inl (e _ h)))))
        · exact .inr (.inr (.inr (.inr (.inr (.inl (e _ h))))))
        · exact .inr (.inr (.inr (.inr (.inr (.inr (.inl (e _ h)))))))
        · exact .inr (.inr (.inr (.inr (.inr (.inr (.inr (e _ h)))))))
      rcases this with rfl | rfl | rfl | rfl | rfl | rfl | rfl | rfl <;> exact (show List.contains _ _ = true from by kernel_rfl)
    unfold Lib.trimS
    rw [hr]
    rfl
  rw [hT]
  simp only [Option.bind_some]
  rw [if_pos (by kernel_rfl)]

theorem list_ok {c : ByteArray} (h : okc c) {n : Int} (h0 : 0 ≤ n) (h1 : n ≤ 2000) : heap_list.f c n = some (vals (digs c) n.toNat) := by
  unfold heap_list.f
  rw [if_pos ⟨h.code, h0, by omega⟩]


def outOf (ds : List UInt8) : ByteArray := ⟨(48 :: 46 :: ds).toArray⟩
theorem outOf_size (ds : List UInt8) : (outOf ds).size = ds.length + 2 := by simp [outOf, ByteArray.size]
theorem outOf_snoc (ds : List UInt8) (b : UInt8) : outOf ds ++ ⟨#[b]⟩ = outOf (ds ++ [b]) := by
  apply ByteArray.ext
  simp [outOf, ByteArray.data_append]
theorem outOf_ok (ds : List UInt8) (h0 : ds ≠ []) (h1 : ds.length ≤ 8) (h : ∀ b ∈ ds, 48 ≤ b.toNat ∧ b.toNat ≤ 55) : okc (outOf ds) := by
  have hl : 0 < ds.length := List.length_pos_iff.2 h0
  have hs := outOf_size ds
  refine ⟨?_, by omega, ?_⟩
  · unfold isCode
    have e : ((outOf ds).extract 2 (outOf ds).size).data.toList = ds := by
      rw [hs, ByteArray.data_extract]
      simp [outOf]
    rw [e]
    simp only [Bool.and_eq_true, decide_eq_true_eq]
    refine ⟨⟨by omega, by omega⟩, List.all_eq_true.2 (fun b hb => ?_)⟩
    simp only [Bool.and_eq_true, decide_eq_true_eq]
    exact h b hb
  · have e : (outOf ds).extract 0 2 = ⟨#[48, 46]⟩ := by
      apply ByteArray.ext
      rw [ByteArray.data_extract]
      apply Array.toList_inj.1
      simp [outOf]
    have e2 : (⟨#[48, 46]⟩ : ByteArray).toList = [48, 46] := by kernel_rfl
    rw [e]
    exact e2

theorem dig_byte (s : ByteArray) (i : Int) : 48 ≤ (UInt8.ofNat ((48 + Int.tmod (bt s i) 8) % 256).toNat).toNat ∧ (UInt8.ofNat ((48 + Int.tmod (bt s i) 8) % 256).toNat).toNat ≤ 55 := by
  have hb : 0 ≤ bt s i := by unfold bt; split <;> omega
  rw [Int.tmod_eq_emod_of_nonneg hb]
  have h1 := Int.emod_nonneg (bt s i) (by decide : (8 : Int) ≠ 0)
  have h2 := Int.emod_lt_of_pos (bt s i) (by decide : (0 : Int) < 8)
  generalize bt s i % 8 = e at *
  rw [Int.emod_eq_of_lt (by omega) (by omega)]
  have : (48 + e).toNat < 256 := by omega
  rw [UInt8.toNat_ofNat']
  rw [Nat.mod_eq_of_lt this]
  omega

theorem code_from (s : ByteArray) (hs : s.size ≤ 9223372036854775807) (dd : Nat) : ∀ (ds : List UInt8), ds.length + dd = 8 → (∀ b ∈ ds, 48 ≤ b.toNat ∧ b.toNat ≤ 55) →
    ∃ c, Evt (fun k => staddalaw06_code.l0 k s (outOf ds) (ds.length : Int)) c ∧ okc c := by
  have fin : ∀ ds : List UInt8, ds.length ≤ 8 → (∀ b ∈ ds, 48 ≤ b.toNat ∧ b.toNat ≤ 55) → ∃ c, (if ((outOf ds).size : Int) = 2 then (if (outOf ds).size + 1 ≤ 9223372036854775807 then (some (outOf ds ++ (⟨#[55]⟩ : ByteArray))) else (none)) else (some (outOf ds))) = some c ∧ okc c := by
    intro ds h1 h2
    have hz := outOf_size ds
    by_cases h : ds.length = 0
    · have h0 : ds = [] := List.length_eq_zero_iff.1 h
      refine ⟨outOf (ds ++ [55]), ?_, outOf_ok _ (by simp) (by simp [h0]) (fun b hb => by rw [h0] at hb; simp at hb; subst hb; decide)⟩
      rw [if_pos (by omega), if_pos (by omega), outOf_snoc]
    · refine ⟨outOf ds, ?_, outOf_ok _ (by intro e; rw [e] at h; simp at h) h1 h2⟩
      rw [if_neg (by omega)]
  induction dd with
  | zero =>
    intro ds hd hall
    obtain ⟨c, h1, h2⟩ := fin ds (by omega) hall
    refine ⟨c, Evt.step (fun k => by rw [staddalaw06_code.l0]) ?_, h2⟩
    by_cases hx : (ds.length : Int) < (s.size : Int)
    · refine Evt.pos hx (Evt.neg (by omega) ?_)
      rw [h1]; exact Evt.const _
    · refine Evt.neg hx ?_
      rw [h1]; exact Evt.const _
  | succ dd ih =>
    intro ds hd hall
    by_cases hx : (ds.length : Int) < (s.size : Int)
    · obtain ⟨c, h1, h2⟩ := ih (ds ++ [UInt8.ofNat ((48 + Int.tmod (bt s (ds.length : Int)) 8) % 256).toNat]) (by simp; omega) (fun b hb => by
        rcases List.mem_append.1 hb with hb | hb
        · exact hall b hb
        · rw [List.mem_singleton.1 hb]; exact dig_byte s _)
      refine ⟨c, Evt.step (fun k => by rw [staddalaw06_code.l0]) ?_, h2⟩
      refine Evt.pos hx (Evt.pos (by omega) (Evt.pos (by omega) ?_))
      refine Evt.bind (Evt.const _) ?_
      have hz := outOf_size ds
      have e1 : strOfNums [(48 + Int.tmod (bt s (ds.length : Int)) 8) % 256] = ⟨#[UInt8.ofNat ((48 + Int.tmod (bt s (ds.length : Int)) 8) % 256).toNat]⟩ := rfl
      rw [e1]
      refine Evt.pos (by rw [hz]; show ds.length + 2 + 1 ≤ _; omega) ?_
      rw [outOf_snoc, w64 (by omega) (by omega)]
      rw [List.length_append, List.length_singleton, show ((ds.length + 1 : Nat) : Int) = (ds.length : Int) + 1 from by omega] at h1
      exact h1
    · obtain ⟨c, h1, h2⟩ := fin ds (by omega) hall
      refine ⟨c, Evt.step (fun k => by rw [staddalaw06_code.l0]) ?_, h2⟩
      refine Evt.neg hx ?_
      rw [h1]; exact Evt.const _

theorem code_ev (s : ByteArray) (hs : s.size ≤ 9223372036854775807) : ∃ c, Evt (fun k => staddalaw06_code.f k s) c ∧ okc c :=
  code_from s hs 8 [] rfl (fun b hb => by simp at hb)

set_option maxRecDepth 1000000 in
theorem awake_true : staddalaw06_awake.f 200 = some true := by kernel_rfl
end Go.Proofs.YtkfbdhlfajdpgaaDoor.PHeapWins
namespace Go.Proofs.YtkfbdhlfajdpgaaDoor.HWins
set_option linter.unusedVariables false
set_option linter.unusedSimpArgs false
open Go Go.Proofs.YtkfbdhlfajdpgaaDoor.UBits Go.Proofs.YtkfbdhlfajdpgaaDoor.HSpec Go.Proofs.YtkfbdhlfajdpgaaDoor.HNim

/-- The value of a heap, as a natural number. -/
def vN (V : List Int) (n : Int) : Nat := (at0 V n).toNat
structure Tab (V : List Int) (B : Nat) : Prop where
  len : V.length = B + 1
  good : HSpec.Good V
  small : B < 256
theorem Tab.at {V : List Int} {B : Nat} (h : Tab V B) {n : Int} (h0 : 0 ≤ n) (h1 : n ≤ B) : at0 V n = (vN V n : Int) ∧ vN V n < 256 ∧ (vN V n : Int) ≤ n := by
  have hl := h.len
  have hs := h.small
  have := h.good.at0 h0 (by omega)
  unfold vN
  omega
theorem xr_nat (a b : Nat) (ha : a < 256) (hb : b < 256) : xr (a : Int) (b : Int) = ((a ^^^ b : Nat) : Int) ∧ a ^^^ b < 256 := by
  unfold xr
  rw [xor_i64 a b (by omega) (by omega)]
  exact ⟨rfl, Nat.xor_lt_two_pow (n := 8) ha hb⟩
theorem wsum_from {V : List Int} {B : Nat} (h : Tab V B) : ∀ (l : List Int) (s : Nat), s < 256 → (∀ n ∈ l, 0 ≤ n ∧ n ≤ B) → l.foldl (fun s n => xr s (at0 V n)) (s : Int) = ((s ^^^ nx (l.map (vN V)) : Nat) : Int) ∧ s ^^^ nx (l.map (vN V)) < 256
  | [], s, hs, _ => by simp [nx, hs]
  | n :: l, s, hs, hl => by
    obtain ⟨e1, e2, _⟩ := h.at (hl n (by simp)).1 (hl n (by simp)).2
    obtain ⟨e3, e4⟩ := xr_nat s (vN V n) hs e2
    rw [List.foldl_cons, e1, e3]
    obtain ⟨i1, i2⟩ := wsum_from h l (s ^^^ vN V n) e4 (fun m hm => hl m (by simp [hm]))
    rw [List.map_cons, nx, ← Nat.xor_assoc]
    exact ⟨i1, i2⟩
theorem wsum_nx {V : List Int} {B : Nat} (h : Tab V B) {l : List Int} (hl : ∀ n ∈ l, 0 ≤ n ∧ n ≤ B) : wsum V l = (nx (l.map (vN V)) : Int) ∧ nx (l.map (vN V)) < 256 := by
  have := wsum_from h l 0 (by omega) hl
  simpa [wsum] using this
theorem nx_filter {V : List Int} (h0 : vN V 0 = 0) : ∀ l : List Int, nx ((l.filter fun n => !(n == 0)).map (vN V)) = nx (l.map (vN V))
  | [] => rfl
  | n :: l => by
    by_cases h : n = 0
    · subst h
      simp only [List.map_cons, nx, h0]
      rw [List.filter_cons_of_neg (by simp), nx_filter h0 l]
      simp
    · rw [List.filter_cons_of_pos (by simpa using h), List.map_cons, List.map_cons, nx, nx, nx_filter h0 l]
theorem nx_erase {V : List Int} {l : List Int} {i : Nat} (hi : i < l.length) : nx (l.map (vN V)) = vN V (l.getD i 0) ^^^ nx ((l.eraseIdx i).map (vN V)) := by
  have e : l = l.take i ++ l[i] :: l.drop (i + 1) := by rw [← List.drop_eq_getElem_cons hi, List.take_append_drop]
  have e2 : l.eraseIdx i = l.take i ++ l.drop (i + 1) := List.eraseIdx_eq_take_drop_succ ..
  have e3 : l.getD i 0 = l[i] := by rw [List.getD_eq_getElem?_getD, List.getElem?_eq_getElem hi]; rfl
  rw [e3, e2]
  conv => lhs; rw [e]
  rw [List.map_append, List.map_append, nx_append, nx_append, List.map_cons, nx]
  rw [← Nat.xor_assoc, ← Nat.xor_assoc, Nat.xor_comm (nx _) (vN V _)]

/-- A table of values by the moves. -/
structure VTab (d V : List Int) (B : Nat) : Prop extends Tab V B where
  mex : ∀ n : Nat, 1 ≤ n → n ≤ B → (vN V n : Int) ∉ (mv d n).map (optv V) ∧ ∀ k : Nat, k < vN V n → (k : Int) ∈ (mv d n).map (optv V)
theorem at0_prefix (d : List Int) {m B : Nat} (hm : m ≤ B) {n : Int} (h0 : 0 ≤ n) (h1 : n ≤ m) : at0 (vals d B) n = at0 (vals d m) n := by
  obtain ⟨r, hr⟩ := vals_prefix d hm
  have hl := vals_length d m
  unfold at0
  rw [hr, List.getD_eq_getElem?_getD, List.getD_eq_getElem?_getD, List.getElem?_append_left (by omega)]
theorem vtab (d : List Int) (B : Nat) (hB : B < 256) : VTab d (vals d B) B where
  len := vals_length d B
  good := vals_good d B (by omega)
  small := hB
  mex := by
    intro n h1 h2
    obtain ⟨m, rfl⟩ : ∃ m, n = m + 1 := ⟨n - 1, by omega⟩
    have hlen := vals_length d m
    have e0 : at0 (vals d B) ((m + 1 : Nat) : Int) = (mexN (opts d (vals d m)) : Int) := by
      rw [at0_prefix d h2 (by omega) (by omega)]
      unfold at0
      rw [vals, vstep, Int.toNat_natCast, List.getD_eq_getElem?_getD, List.getElem?_append_right (by omega), hlen]
      simp
    have e1 : vN (vals d B) ((m + 1 : Nat) : Int) = mexN (opts d (vals d m)) := by unfold vN; rw [e0]; simp
    have e2 : (mv d ((m + 1 : Nat) : Int)).map (optv (vals d B)) = opts d (vals d m) := by
      unfold opts
      rw [hlen]
      refine List.map_congr_left (fun p hp => ?_)
      obtain ⟨p1, p2, p3⟩ := mem_mv hp
      unfold optv
      rw [at0_prefix d (show m ≤ B by omega) p1 (by omega), at0_prefix d (show m ≤ B by omega) p2 (by omega)]
    rw [e1, e2]
    exact mexN_spec _
theorem xor_self4 (s a : Nat) (h : a = s) : a ^^^ s = 0 := by subst h; simp
theorem okM_nat {V : List Int} {B : Nat} (h : Tab V B) {s v : Nat} (hs : s < 256) (hv : v < 256) {p : Int × Int} (h1 : 0 ≤ p.1) (h2 : 0 ≤ p.2) (h3 : p.1 ≤ B) (h4 : p.2 ≤ B) :
    (okM V (xr (s : Int) (v : Int)) p = true ↔ ((s ^^^ v) ^^^ vN V p.1) ^^^ vN V p.2 = 0) ∧ optv V p = ((vN V p.1 ^^^ vN V p.2 : Nat) : Int) := by
  obtain ⟨a1, a2, _⟩ := h.at h1 h3
  obtain ⟨b1, b2, _⟩ := h.at h2 h4
  obtain ⟨e1, e2⟩ := xr_nat s v hs hv
  obtain ⟨e3, e4⟩ := xr_nat (s ^^^ v) (vN V p.1) e2 a2
  obtain ⟨e5, e6⟩ := xr_nat ((s ^^^ v) ^^^ vN V p.1) (vN V p.2) e4 b2
  unfold okM optv
  rw [a1, b1, e1, e3, e5, (xr_nat _ _ a2 b2).1]
  refine ⟨?_, rfl⟩
  rw [beq_iff_eq]
  omega
/-- Who is to move from a sum that is not 0, and only who is, can leave the sum 0. -/
theorem wins_iff {d V : List Int} {B : Nat} (h : VTab d V B) {l : List Int} (hl : ∀ n ∈ l, 0 ≤ n ∧ n ≤ B) : movesOf d V l ≠ [] ↔ wsum V l ≠ 0 := by
  obtain ⟨w1, w2⟩ := wsum_nx h.toTab hl
  have hget : ∀ i, i < l.length → l.getD i 0 ∈ l := fun i hi => by rw [List.getD_eq_getElem?_getD, List.getElem?_eq_getElem hi]; exact List.getElem_mem hi
  constructor
  · intro hne hz
    obtain ⟨z, hz2⟩ := List.exists_mem_of_ne_nil _ hne
    obtain ⟨i, hi, p, hp, hok, _⟩ := mem_movesOf.1 hz2
    obtain ⟨n0, n1⟩ := hl _ (hget i hi)
    obtain ⟨n, hn⟩ := Int.eq_ofNat_of_zero_le n0
    obtain ⟨p1, p2, p3⟩ := mem_mv hp
    obtain ⟨v1, v2, _⟩ := h.toTab.at n0 n1
    have hs : nx (l.map (vN V)) = 0 := by omega
    rw [w1, v1] at hok
    obtain ⟨k1, k2⟩ := okM_nat h.toTab w2 v2 p1 p2 (by omega) (by omega)
    have := k1.1 hok
    rw [hs, Nat.zero_xor, Nat.xor_assoc] at this
    have e : vN V (l.getD i 0) = vN V p.1 ^^^ vN V p.2 := by
      have h2 := congrArg (vN V (l.getD i 0) ^^^ ·) this
      simpa [← Nat.xor_assoc] using h2.symm
    have hm := (h.mex n (by omega) (by omega)).1
    refine hm (List.mem_map.2 ⟨p, by rw [hn] at hp; exact hp, ?_⟩)
    rw [k2, ← e, hn]
  · intro hne
    have hs : nx (l.map (vN V)) ≠ 0 := by omega
    obtain ⟨x, hx, hlt⟩ := nim_lt hs
    obtain ⟨y, hy, rfl⟩ := List.mem_map.1 hx
    obtain ⟨i, hi, rfl⟩ := List.getElem_of_mem hy
    have e3 : l.getD i 0 = l[i] := by rw [List.getD_eq_getElem?_getD, List.getElem?_eq_getElem hi]; rfl
    obtain ⟨n0, n1⟩ := hl _ hy
    obtain ⟨n, hn⟩ := Int.eq_ofNat_of_zero_le n0
    obtain ⟨v1, v2, v3⟩ := h.toTab.at n0 n1
    have hn1 : 1 ≤ n := by omega
    have hm := (h.mex n hn1 (by omega)).2 (vN V l[i] ^^^ nx (l.map (vN V))) (by rw [hn] at hlt ⊢; exact hlt)
    obtain ⟨p, hp, hpe⟩ := List.mem_map.1 hm
    obtain ⟨p1, p2, p3⟩ := mem_mv hp
    obtain ⟨k1, k2⟩ := okM_nat h.toTab w2 v2 p1 p2 (by omega) (by omega)
    rw [k2] at hpe
    have hpe : vN V p.1 ^^^ vN V p.2 = vN V l[i] ^^^ nx (l.map (vN V)) := by omega
    refine List.ne_nil_of_mem (mem_movesOf.2 ⟨i, hi, p, by rw [e3, hn]; exact hp, ?_, rfl⟩)
    rw [e3, w1, v1]
    refine k1.2 ?_
    rw [Nat.xor_assoc, hpe, Nat.xor_comm (nx _)]
    simp
theorem x4 (e v a b : Nat) : e ^^^ (a ^^^ b) = ((v ^^^ e) ^^^ v ^^^ a) ^^^ b := by
  have : (v ^^^ e) ^^^ v = e := by rw [Nat.xor_comm v e, Nat.xor_assoc, Nat.xor_self, Nat.xor_zero]
  rw [this, Nat.xor_assoc]
/-- The sum behind a move. -/
theorem own_sum {d V : List Int} {B : Nat} (h : VTab d V B) {l : List Int} (hl : ∀ n ∈ l, 0 ≤ n ∧ n ≤ B) {i : Nat} (hi : i < l.length) {p : Int × Int} (hp : p ∈ mv d (l.getD i 0)) : (wsum V (ownOf l i p) = 0 ↔ okM V (xr (wsum V l) (at0 V (l.getD i 0))) p = true) ∧ ∀ y ∈ ownOf l i p, 1 ≤ y ∧ ((∃ n ∈ l, y ≤ n) ∧ y ≤ B) := by
  obtain ⟨w1, w2⟩ := wsum_nx h.toTab hl
  have hmem : l.getD i 0 ∈ l := by rw [List.getD_eq_getElem?_getD, List.getElem?_eq_getElem hi]; exact List.getElem_mem hi
  obtain ⟨n0, n1⟩ := hl _ hmem
  obtain ⟨p1, p2, p3⟩ := mem_mv hp
  obtain ⟨v1, v2, _⟩ := h.toTab.at n0 n1
  rw [w1, v1]
  obtain ⟨k1, k2⟩ := okM_nat h.toTab w2 v2 p1 p2 (by omega) (by omega)
  have hperm := isort_perm ((l.eraseIdx i ++ [p.1, p.2]).filter fun n => !(n == 0))
  have hrng : ∀ y ∈ ownOf l i p, 1 ≤ y ∧ ((∃ n ∈ l, y ≤ n) ∧ y ≤ B) := by
    intro y hy
    have hy := hperm.mem_iff.1 hy
    rw [List.mem_filter] at hy
    obtain ⟨hy, hy0⟩ := hy
    have hy0 : y ≠ 0 := by simpa using hy0
    rcases List.mem_append.1 hy with hy | hy
    · have hy := List.mem_of_mem_eraseIdx hy
      have := hl y hy
      exact ⟨by omega, ⟨y, hy, Int.le_refl _⟩, by omega⟩
    · have : y = p.1 ∨ y = p.2 := by simpa using hy
      rcases this with rfl | rfl
      · exact ⟨by omega, ⟨_, hmem, by omega⟩, by omega⟩
      · exact ⟨by omega, ⟨_, hmem, by omega⟩, by omega⟩
  refine ⟨?_, hrng⟩
  have h0 : vN V 0 = 0 := by
    obtain ⟨_, _, h3⟩ := h.toTab.at (n := 0) (by omega) (by omega)
    omega
  rw [(wsum_nx h.toTab (fun y hy => ⟨by have := hrng y hy; omega, (hrng y hy).2.2⟩)).1]
  have e : nx ((ownOf l i p).map (vN V)) = ((nx (l.map (vN V)) ^^^ vN V (l.getD i 0)) ^^^ vN V p.1) ^^^ vN V p.2 := by
    unfold ownOf
    rw [nx_perm (hperm.map _), nx_filter h0, List.map_append, nx_append, nx_erase hi]
    simp only [List.map_cons, List.map_nil, nx, Nat.xor_zero]
    exact x4 _ _ _ _
  rw [e, k1]
  omega
/-- Each move that is listed leaves the sum 0, in heaps that are not empty. -/
theorem wins_mem {d V : List Int} {B : Nat} (h : VTab d V B) {l : List Int} (hl : ∀ n ∈ l, 0 ≤ n ∧ n ≤ B) {C : Int} (hC : ∀ n ∈ l, n ≤ C) {z : List Int} (hz : z ∈ movesOf d V l) : (∀ y ∈ z, 1 ≤ y ∧ y ≤ C ∧ y ≤ B) ∧ wsum V z = 0 ∧ z.length ≤ l.length + 1 := by
  obtain ⟨w1, w2⟩ := wsum_nx h.toTab hl
  obtain ⟨i, hi, p, hp, hok, rfl⟩ := mem_movesOf.1 hz
  have hmem : l.getD i 0 ∈ l := by rw [List.getD_eq_getElem?_getD, List.getElem?_eq_getElem hi]; exact List.getElem_mem hi
  obtain ⟨n0, n1⟩ := hl _ hmem
  have nC := hC _ hmem
  obtain ⟨p1, p2, p3⟩ := mem_mv hp
  obtain ⟨v1, v2, _⟩ := h.toTab.at n0 n1
  rw [w1, v1] at hok
  obtain ⟨k1, k2⟩ := okM_nat h.toTab w2 v2 p1 p2 (by omega) (by omega)
  have hsum := k1.1 hok
  have hperm := isort_perm ((l.eraseIdx i ++ [p.1, p.2]).filter fun n => !(n == 0))
  have hrng : ∀ y ∈ ownOf l i p, 1 ≤ y ∧ y ≤ C ∧ y ≤ B := by
    intro y hy
    have hy := hperm.mem_iff.1 hy
    rw [List.mem_filter] at hy
    obtain ⟨hy, hy0⟩ := hy
    have hy0 : y ≠ 0 := by simpa using hy0
    rcases List.mem_append.1 hy with hy | hy
    · have hy := List.mem_of_mem_eraseIdx hy
      have := hl y hy
      have := hC y hy
      omega
    · have : y = p.1 ∨ y = p.2 := by simpa using hy
      rcases this with rfl | rfl <;> omega
  refine ⟨hrng, ?_, ?_⟩
  · have h0 : vN V 0 = 0 := by
      obtain ⟨_, _, h3⟩ := h.toTab.at (n := 0) (by omega) (by omega)
      omega
    rw [(wsum_nx h.toTab (fun y hy => ⟨by have := hrng y hy; omega, (hrng y hy).2.2⟩)).1]
    have e : nx ((ownOf l i p).map (vN V)) = ((nx (l.map (vN V)) ^^^ vN V (l.getD i 0)) ^^^ vN V p.1) ^^^ vN V p.2 := by
      unfold ownOf
      rw [nx_perm (hperm.map _), nx_filter h0, List.map_append, nx_append, nx_erase hi]
      simp only [List.map_cons, List.map_nil, nx, Nat.xor_zero]
      exact x4 _ _ _ _
    rw [e, hsum]; rfl
  · unfold ownOf
    rw [(isort_perm _).length_eq]
    refine Nat.le_trans (List.length_filter_le _ _) ?_
    rw [List.length_append, List.length_eraseIdx, if_pos hi]
    simp only [List.length_cons, List.length_nil]
    omega
end Go.Proofs.YtkfbdhlfajdpgaaDoor.HWins
namespace Go.Proofs.YtkfbdhlfajdpgaaDoor.PHeapWins
set_option linter.unusedVariables false
set_option linter.unusedSimpArgs false
open Go Go.RowKit Go.Proofs.YtkfbdhlfajdpgaaDoorW.PrintWords Go.Proofs.YtkfbdhlfajdpgaaDoorW.PrintLast Go.Proofs.YtkfbdhlfajdpgaaDoorW.PrintMore Go.Proofs.YtkfbdhlfajdpgaaDoor.UEv Go.Proofs.YtkfbdhlfajdpgaaDoor.HSpec Go.Proofs.YtkfbdhlfajdpgaaDoor.HCode Go.Proofs.YtkfbdhlfajdpgaaDoor.HNim Go.Proofs.YtkfbdhlfajdpgaaDoor.HWins

theorem awake_ev : Evt (fun k => staddalaw06_awake.f k) true := by
  refine ⟨200, fun k hk => ?_⟩
  obtain ⟨j, rfl⟩ := Nat.le.dest hk
  exact staddalaw06_awake.up awake_true j

theorem moves_f {c : ByteArray} (h : okc c) {l : List Int} (hl : l.length ≤ 10) (hr : ∀ n ∈ l, 0 ≤ n ∧ n ≤ 200) : heap_Moves.f c l = some (movesOf (digs c) (vals (digs c) 200) l, 0) := by
  unfold heap_Moves.f
  rw [check_ok h, Option.bind_some, if_pos rfl, if_pos h.code]
  unfold HSteps.movesF
  rw [if_neg (by omega), if_neg]
  unfold HSteps.outR
  rw [Bool.not_eq_true, List.any_eq_false]
  intro x hx
  have := hr x hx
  simp; omega

theorem wsum30 (d : List Int) {l : List Int} (hl : ∀ n ∈ l, 0 ≤ n ∧ n ≤ 30) : wsum (vals d 30) l = wsum (vals d 200) l := by
  have key : ∀ (l : List Int) (s : Int), (∀ n ∈ l, 0 ≤ n ∧ n ≤ 30) → l.foldl (fun s n => xr s (at0 (vals d 30) n)) s = l.foldl (fun s n => xr s (at0 (vals d 200) n)) s := by
    intro l
    induction l with
    | nil => intro s _; simp only [List.foldl_nil]
    | cons n l ih =>
      intro s h
      rw [List.foldl_cons, List.foldl_cons, at0_prefix d (show 30 ≤ 200 by omega) (h n (by simp)).1 (h n (by simp)).2]
      exact ih _ (fun m hm => h m (by simp [hm]))
  exact key l 0 hl

theorem hw_l2 (V : List Int) (P : List (List Int)) (j : Nat) (z : List Int) (hj : P[j]? = some z) (hz : ∀ y ∈ z, 1 ≤ y ∧ y ≤ 30) (hV : V.length = 31) (hzl : z.length ≤ 100000) (hw : wsum V z = 0)
    (hnext : Evt (fun k => staddalaw06_HeapWins.l1 k V P (wrap64 ((j : Int) + 1))) true) (dd : Nat) : ∀ i : Nat, z.length = i + dd → Evt (fun k => staddalaw06_HeapWins.l2 k V P (j : Int) (wsum V (z.take i)) (i : Int)) true := by
  have hjl : j < P.length := (List.getElem?_eq_some_iff.1 hj).1
  have hrd : rd_L2 P (j : Int) = z := by unfold rd_L2; rw [Int.toNat_natCast, List.getD_eq_getElem?_getD, hj]; rfl
  induction dd with
  | zero =>
    intro i hi
    refine Evt.step (fun k => by rw [staddalaw06_HeapWins.l2]) ?_
    refine Evt.pos (by omega) (Evt.pos (by omega) (Evt.neg (by rw [hrd]; omega) ?_))
    rw [List.take_of_length_le (by omega), hw]
    exact Evt.pos rfl hnext
  | succ dd ih =>
    intro i hi
    have hil : i < z.length := by omega
    have e : rd z (i : Int) = z[i] := by unfold rd; rw [Int.toNat_natCast, List.getD_eq_getElem?_getD, List.getElem?_eq_getElem hil]; rfl
    have hy := hz z[i] (List.getElem_mem hil)
    have hs := HSteps.wsum_take V z i hil
    refine Evt.step (fun k => by rw [staddalaw06_HeapWins.l2]) ?_
    rw [hrd, e]
    refine Evt.pos (by omega) (Evt.pos (by omega) (Evt.pos (by omega) (Evt.pos (by omega) (Evt.neg (by omega) (Evt.neg (by omega) (Evt.pos (by omega) (Evt.pos (by omega) ?_)))))))
    have := ih (i + 1) (by omega)
    rw [hs, List.getElem?_eq_getElem hil] at this
    rw [w64 (by omega) (by omega)]
    exact_mod_cast this

theorem hw_l1 (V : List Int) (P : List (List Int)) (hP : ∀ z ∈ P, (∀ y ∈ z, 1 ≤ y ∧ y ≤ 30) ∧ z.length ≤ 100000 ∧ wsum V z = 0) (hV : V.length = 31) (hPl : P.length ≤ 1000000000) (dd : Nat) : ∀ j : Nat, P.length = j + dd → Evt (fun k => staddalaw06_HeapWins.l1 k V P (j : Int)) true := by
  induction dd with
  | zero =>
    intro j hj
    refine Evt.step (fun k => by rw [staddalaw06_HeapWins.l1]) ?_
    exact Evt.neg (by omega) (Evt.bind awake_ev (Evt.const _))
  | succ dd ih =>
    intro j hj
    have hjl : j < P.length := by omega
    obtain ⟨h1, h2, h3⟩ := hP P[j] (List.getElem_mem hjl)
    refine Evt.step (fun k => by rw [staddalaw06_HeapWins.l1]) ?_
    refine Evt.pos (by omega) ?_
    have hn := ih (j + 1) (by omega)
    have := hw_l2 V P j P[j] (List.getElem?_eq_getElem hjl) h1 hV h2 h3 (by rw [w64 (by omega) (by omega)]; exact_mod_cast hn) P[j].length 0 (by omega)
    exact this

theorem moves_len {c : ByteArray} (h : okc c) {l : List Int} (hl : l.length ≤ 10) (hr : ∀ n ∈ l, 0 ≤ n ∧ n ≤ 200) (V : List Int) : (movesOf (digs c) V l).length ≤ 1000000000 := by
  have h1 : ∀ (p : List Int) (l : List (List Int)), (dgo p l).length ≤ l.length := by
    intro p l
    induction l generalizing p with
    | nil => simp [dgo]
    | cons y l ih =>
      rw [dgo]
      split
      · have := ih y; simp only [List.length_cons]; omega
      · have := ih y; simp only [List.length_cons]; omega
  have h2 : ∀ l : List (List Int), (dedup l).length ≤ l.length := by
    intro l
    cases l with
    | nil => simp [dedup]
    | cons x l => have := h1 x l; simp only [dedup, List.length_cons]; omega
  have h3 := h2 (lsort (outs (digs c) V l))
  rw [(lsort_perm _).length_eq] at h3
  have hd : (digs c).length ≤ 100 := (isCode_of h.code).le
  have h4 := HSteps.outsTo_len (digs c) V l hr hd l.length
  unfold movesOf
  unfold outs at h3
  have : 300100 * l.length ≤ 300100 * 10 := Nat.mul_le_mul_left _ hl
  unfold outs
  omega

theorem hw_j2 {c : ByteArray} (h : okc c) {own : List Int} (hl : own.length ≤ 5) (hr : ∀ n ∈ own, 0 ≤ n ∧ n ≤ 30) : Evt (fun k => staddalaw06_HeapWins.j2 k c (vals (digs c) 30) (wsum (vals (digs c) 30) own) own) true := by
  have hr2 : ∀ n ∈ own, 0 ≤ n ∧ n ≤ 200 := fun n hn => by have := hr n hn; omega
  have hV := vtab (digs c) 200 (by omega)
  have hr3 : ∀ n ∈ own, 0 ≤ n ∧ n ≤ ((200 : Nat) : Int) := fun n hn => by have := hr n hn; omega
  have hiff := wins_iff hV hr3
  have hlen := moves_len h (by omega) hr2 (vals (digs c) 200)
  refine Evt.step (fun k => by rw [staddalaw06_HeapWins.j2]) ?_
  rw [moves_f h (by omega) hr2]
  refine Evt.bind (f := fun _ => some (movesOf (digs c) (vals (digs c) 200) own, (0 : Int))) (Evt.const _) (Evt.pos rfl ?_)
  refine Evt.step (fun k => by rw [staddalaw06_HeapWins.j3]) ?_
  refine Evt.neg ?_ ?_
  · rw [wsum30 (digs c) hr]
    simp only
    by_cases hz : wsum (vals (digs c) 200) own = 0
    · have hn : movesOf (digs c) (vals (digs c) 200) own = [] := Classical.byContradiction fun hh => (hiff.1 hh) hz
      rw [hz, hn]; decide
    · have hn := hiff.2 hz
      have hp := List.length_pos_iff.2 hn
      have e1 : (wsum (vals (digs c) 200) own != 0) = true := by simpa using hz
      have e2 : decide (((movesOf (digs c) (vals (digs c) 200) own).length : Int) > 0) = true := by simp; exact hp
      rw [e1, e2]; decide
  · have := hw_l1 (vals (digs c) 30) (movesOf (digs c) (vals (digs c) 200) own) (fun z hz => by
      obtain ⟨m1, m2, m3⟩ := wins_mem hV hr3 (C := 30) (fun n hn => (hr n hn).2) hz
      refine ⟨fun y hy => ⟨(m1 y hy).1, (m1 y hy).2.1⟩, by omega, ?_⟩
      rw [wsum30 (digs c) (fun y hy => by have := m1 y hy; omega)]
      exact m2) (vals_length _ _) hlen (movesOf (digs c) (vals (digs c) 200) own).length 0 (by omega)
    exact this

theorem hw_l0 (l1 : List Int) {c : ByteArray} (h : okc c) (hl1 : l1.length ≤ 9223372036854775807) (dd : Nat) : ∀ (own : List Int), own.length + dd = 5 → (∀ n ∈ own, 0 ≤ n ∧ n ≤ 30) → Evt (fun k => staddalaw06_HeapWins.l0 k l1 c (vals (digs c) 30) (wsum (vals (digs c) 30) own) own (own.length : Int)) true := by
  induction dd with
  | zero =>
    intro own ho hr
    have hj := hw_j2 h (by omega) hr
    refine Evt.step (fun k => by rw [staddalaw06_HeapWins.l0]) ?_
    by_cases hx : (own.length : Int) < (l1.length : Int)
    · exact Evt.pos hx (Evt.neg (by omega) hj)
    · exact Evt.neg hx hj
  | succ dd ih =>
    intro own ho hr
    refine Evt.step (fun k => by rw [staddalaw06_HeapWins.l0]) ?_
    by_cases hx : (own.length : Int) < (l1.length : Int)
    · obtain ⟨n, hn⟩ : ∃ n, wrap64 (Int.tmod (IntKind.u64.wrap (rd l1 (own.length : Int))) 31) = n := ⟨_, rfl⟩
      have hn2 : 0 ≤ n ∧ n ≤ 30 := by
        have hu : 0 ≤ IntKind.u64.wrap (rd l1 (own.length : Int)) := by
          simp only [IntKind.wrap, IntKind.bits, IntKind.signed]
          simp
          omega
        rw [Int.tmod_eq_emod_of_nonneg hu] at hn
        have h1 := Int.emod_nonneg (IntKind.u64.wrap (rd l1 (own.length : Int))) (by decide : (31 : Int) ≠ 0)
        have h2 := Int.emod_lt_of_pos (IntKind.u64.wrap (rd l1 (own.length : Int))) (by decide : (0 : Int) < 31)
        rw [w64 (by omega) (by omega)] at hn
        omega
      rw [hn]
      have hvl := vals_length (digs c) 30
      refine Evt.pos hx (Evt.pos (by omega) (Evt.pos (by omega) (Evt.pos (by omega) (Evt.pos (by omega) (Evt.pos (by omega) ?_)))))
      have := ih (own ++ [n]) (by rw [List.length_append]; simp; omega) (fun m hm => by
        rcases List.mem_append.1 hm with hm | hm
        · exact hr m hm
        · rw [List.mem_singleton.1 hm]; exact hn2)
      rw [List.length_append, List.length_singleton] at this
      have e : wsum (vals (digs c) 30) (own ++ [n]) = bits .xor .i64 (wsum (vals (digs c) 30) own) (rd (vals (digs c) 30) n) := by
        unfold wsum
        rw [List.foldl_append]
        rfl
      rw [e] at this
      rw [w64 (by omega) (by omega)]
      exact_mod_cast this
    · exact Evt.neg hx (hw_j2 h (by omega) hr)

theorem hw_pure : staddalaw06_HeapWins.Pure := by
  intro a0 l1 hs _ hl _
  obtain ⟨c, hc1, hc⟩ := code_ev a0 (by omega)
  have hvl := vals_length (digs c) 30
  have hv : heap_Values.f c 30 = some (vals (digs c) 30, 0) := by
    unfold heap_Values.f
    rw [check_ok hc, Option.bind_some, if_pos rfl, if_neg (by omega), if_neg (by omega), list_ok hc (by omega) (by omega), Option.bind_some]
    rfl
  have hf : Evt (fun k => staddalaw06_HeapWins.f k a0 l1) true := by
    refine Evt.of_eq (fun k => by rw [staddalaw06_HeapWins.f]) (Evt.bind hc1 ?_)
    rw [hv]
    refine Evt.bind (f := fun _ => some (vals (digs c) 30, (0 : Int))) (Evt.const _) (Evt.pos rfl ?_)
    refine Evt.step (fun k => by rw [staddalaw06_HeapWins.j0]) ?_
    refine Evt.neg (by simp only; rw [hvl]; decide) ?_
    exact hw_l0 l1 hc (by omega) 5 [] rfl (fun n hn => by simp at hn)
  exact hf.get
end Go.Proofs.YtkfbdhlfajdpgaaDoor.PHeapWins
