/- On the way. -/
import Derived.Test.YtpfbkdbblpppdaaGreatDoorEKtA
import Derived.Test.YtpfbkdbblpppdaaGreatDoorEShelf
import Derived.WalkKit
import Derived.OwnWalk
import Derived.Lib.Strings
import Derived.Deep.QuietTactic
import Derived.BigQuiet
import Derived.RangeFuncNested
import Derived.RangeFuncBound
import Derived.RangeFuncCalls
import Derived.RangeFuncLeaves
import Derived.RangeFuncBox
import Derived.Shelf.Abstract
import Derived.OwnWalkIn
import Derived.TacticsInMore
import Derived.LoopNIn
import Derived.LoopIn
import Derived.RegionIn
import Derived.BigRegionIn
import Derived.RegionTactic
import Derived.BigRegion
import Derived.ChangeAlike
set_option linter.unusedVariables false
set_option linter.unusedSimpArgs false
set_option maxHeartbeats 6000000
set_option maxRecDepth 100000
namespace Go.Proofs.YtpfbkdbblpppdaaGreatDoor
structure Pc where
 c : UInt8
 one : Bool
 many : Bool
def pcsG : Bool → List UInt8 → List Pc
 | false, [] => []
 | true, [] => [⟨92, false, false⟩]
 | false, c :: r => if c = 92 then pcsG true r else ⟨c, (c.toNat : Int) == 63, (c.toNat : Int) == 42⟩ :: pcsG false r
 | true, c :: r => ⟨c, false, false⟩ :: pcsG false r
def pcs (l : List UInt8) : List Pc := pcsG false l
def Pc.fits (p : Pc) (c : UInt8) : Bool := p.one || p.c == c
def mt : List Pc → List UInt8 → Bool
 | [], s => s.isEmpty
 | p :: l, s => if p.many then (List.range (s.length + 1)).any (fun j => mt l (s.drop j)) else match s with
  | [] => false
  | c :: r => p.fits c && mt l r
theorem mt_many {p : Pc} {l : List Pc} {s : List UInt8} (h : p.many = true) : mt (p :: l) s = true ↔ ∃ j, j ≤ s.length ∧ mt l (s.drop j) = true := by
 simp only [mt, h, if_true, List.any_eq_true, List.mem_range]
 constructor
 ·rintro ⟨j, hj, hm⟩; exact ⟨j, by omega, hm⟩
 ·rintro ⟨j, hj, hm⟩; exact ⟨j, by omega, hm⟩
theorem mt_cons {p : Pc} {l : List Pc} {c : UInt8} {r : List UInt8} (h : p.many = false) : mt (p :: l) (c :: r) = (p.fits c && mt l r) := by simp [mt, h]
theorem mt_none {p : Pc} {l : List Pc} (h : p.many = false) : mt (p :: l) [] = false := by simp [mt, h]
def run : List Pc → List UInt8 → Prop
 | [], [] => True
 | p :: l, c :: r => p.many = false ∧ p.fits c = true ∧ run l r
 | _, _ => False
theorem run_snoc : ∀ (a : List Pc) (s : List UInt8) (p : Pc) (c : UInt8), run a s → p.many = false → p.fits c = true → run (a ++ [p]) (s ++ [c])
 | [], [], p, c, _, h1, h2 => ⟨h1, h2, trivial⟩
 | q :: l, d :: r, p, c, h, h1, h2 => ⟨h.1, h.2.1, run_snoc l r p c h.2.2 h1 h2⟩
 | [], _ :: _, _, _, h, _, _ => by cases h
 | _ :: _, [], _, _, h, _, _ => by cases h
theorem mt_run : ∀ (a : List Pc) (s : List UInt8) (l : List Pc) (t : List UInt8), run a s → mt (a ++ l) (s ++ t) = mt l t
 | [], [], l, t, _ => rfl
 | p :: a, c :: s, l, t, h => by
  rw [List.cons_append, List.cons_append, mt_cons h.1, h.2.1, Bool.true_and]
  exact mt_run a s l t h.2.2
 | [], _ :: _, _, _, h => by cases h
 | _ :: _, [], _, _, h => by cases h
theorem mt_eats : ∀ (a : List Pc) (l : List Pc) (t : List UInt8), (∀ p ∈ a, p.many = false) → mt (a ++ l) t = true → a.length ≤ t.length ∧ mt l (t.drop a.length) = true
 | [], l, t, _, h => ⟨Nat.zero_le _, h⟩
 | p :: a, l, t, hn, h => by
  have hp := hn p (by simp)
  cases t with
  | nil => rw [List.cons_append, mt_none hp] at h; cases h
  | cons c r =>
   rw [List.cons_append, mt_cons hp, Bool.and_eq_true] at h
   have := mt_eats a l r (fun q hq => hn q (by simp [hq])) h.2
   exact ⟨by simp; omega, by simpa using this.2⟩
theorem run_nostar : ∀ (a : List Pc) (s : List UInt8), run a s → ∀ p ∈ a, p.many = false
 | [], [], _ => by simp
 | p :: l, c :: r, h => by
  intro q hq
  rcases List.mem_cons.1 hq with rfl | hq
  ·exact h.1
  ·exact run_nostar l r h.2.2 q hq
 | [], _ :: _, h => by cases h
 | _ :: _, [], h => by cases h
def Later (S : List UInt8) (L : List Pc) (q from' : Nat) : Prop := mt L S = true ↔ ∃ j, from' ≤ j ∧ j ≤ S.length ∧ mt (L.drop (q + 1)) (S.drop j) = true
structure Inv (S : List UInt8) (L : List Pc) (i k : Nat) (st : Option Nat) (from' : Nat) : Prop where
 hi : i ≤ S.length
 hk : k ≤ L.length
 none' : st = none → from' = 0 ∧ (mt L S = mt (L.drop k) (S.drop i))
 some' : ∀ q, st = some q → q < k ∧ from' ≤ i ∧ i - from' = k - (q + 1) ∧ run ((L.drop (q + 1)).take (k - (q + 1))) ((S.drop from').take (i - from')) ∧
  Later S L q from'
theorem drop_take_drop {α : Type} (l : List α) (a b : Nat) (h : a ≤ b) : (l.drop a) = (l.drop a).take (b - a) ++ l.drop b := by
 conv => lhs; rw [← List.take_append_drop (b - a) (l.drop a)]
 rw [List.drop_drop]; congr 2; omega
theorem Inv.here {S : List UInt8} {L : List Pc} {i k q from' : Nat} (h : Inv S L i k (some q) from') : mt (L.drop (q + 1)) (S.drop from') = mt (L.drop k) (S.drop i) := by
 obtain ⟨h1, h2, h3, h4, _⟩ := h.some' q rfl
 rw [drop_take_drop L (q + 1) k (by omega), drop_take_drop S from' i h2]
 exact mt_run _ _ _ _ h4
theorem inv_start (S : List UInt8) (L : List Pc) : Inv S L 0 0 none 0 :=
 ⟨Nat.zero_le _, Nat.zero_le _, fun _ => ⟨rfl, rfl⟩, fun q h => by cases h⟩
theorem inv_star {S : List UInt8} {L : List Pc} {i k from' : Nat} {st : Option Nat} (h : Inv S L i k st from') (hk : k < L.length) (hm : L[k].many = true) : Inv S L i (k + 1) (some k) i := by
 refine ⟨h.hi, hk, (fun h => by cases h), fun q hq => ?_⟩
 obtain rfl : k = q := by simpa using hq
 refine ⟨by omega, by omega, by omega, by simp [run], ?_⟩
 unfold Later
 have hd : L.drop k = L[k] :: L.drop (k + 1) := List.drop_eq_getElem_cons hk
 have hstar : ∀ t : Nat, mt (L.drop k) (S.drop t) = true ↔ ∃ j, j ≤ (S.drop t).length ∧ mt (L.drop (k + 1)) (S.drop (t + j)) = true := by
  intro t
  rw [hd, mt_many hm]
  simp only [List.drop_drop]
 cases st with
 | none =>
  rw [(h.none' rfl).2, hstar]
  constructor
  ·rintro ⟨j, hj, hx⟩; simp at hj; exact ⟨i + j, by omega, by have := h.hi; omega, hx⟩
  ·rintro ⟨j, h1, h2, hx⟩; exact ⟨j - i, by simp; omega, by rw [show i + (j - i) = j by omega]; exact hx⟩
 | some q =>
  obtain ⟨h1, h2, h3, h4, h5⟩ := h.some' q rfl
  unfold Later at h5
  rw [h5]
  clear h5
  constructor
  ·rintro ⟨j, hj1, hj2, hx⟩
   rw [drop_take_drop L (q + 1) k (by omega)] at hx
   have he := mt_eats _ _ _ (run_nostar _ _ h4) hx
   have hlen : ((L.drop (q + 1)).take (k - (q + 1))).length = k - (q + 1) := by simp; omega
   rw [hlen, List.drop_drop] at he
   obtain ⟨j', hj', hy⟩ := (hstar _).1 he.2
   have e1 := he.1
   simp at hj' e1
   exact ⟨j + (k - (q + 1)) + j', by omega, by omega, hy⟩
  ·rintro ⟨j, hj1, hj2, hx⟩
   refine ⟨from', Nat.le_refl _, by have := h.hi; omega, ?_⟩
   rw [h.here, hstar]
   exact ⟨j - i, by simp; omega, by rw [show i + (j - i) = j by omega]; exact hx⟩
theorem inv_fit {S : List UInt8} {L : List Pc} {i k from' : Nat} {st : Option Nat} (h : Inv S L i k st from') (hi : i < S.length) (hk : k < L.length) (hm : L[k].many = false) (hf : L[k].fits S[i] = true) :
    Inv S L (i + 1) (k + 1) st from' := by
 refine ⟨hi, hk, fun hn => ⟨(h.none' hn).1, ?_⟩, fun q hq => ?_⟩
 ·rw [(h.none' hn).2, List.drop_eq_getElem_cons hk, List.drop_eq_getElem_cons hi, mt_cons hm, hf, Bool.true_and]
 ·obtain ⟨h1, h2, h3, h4, h5⟩ := h.some' q hq
  refine ⟨by omega, by omega, by omega, ?_, h5⟩
  have e1 : (L.drop (q + 1)).take (k + 1 - (q + 1)) = (L.drop (q + 1)).take (k - (q + 1)) ++ [L[k]] := by
   rw [show k + 1 - (q + 1) = k - (q + 1) + 1 by omega, List.take_succ_eq_append_getElem (by simp; omega)]
   congr 2; simp; congr 1; omega
  have e2 : (S.drop from').take (i + 1 - from') = (S.drop from').take (i - from') ++ [S[i]] := by
   rw [show i + 1 - from' = i - from' + 1 by omega, List.take_succ_eq_append_getElem (by simp; omega)]
   congr 2; simp; congr 1; omega
  rw [e1, e2]
  exact run_snoc _ _ _ _ h4 hm hf
def Stuck (S : List UInt8) (L : List Pc) (i k : Nat) : Prop := i < S.length ∧ (k = L.length ∨ ∃ (hk : k < L.length) (hi : i < S.length), L[k].many = false ∧ L[k].fits S[i] = false)
theorem Stuck.no {S : List UInt8} {L : List Pc} {i k : Nat} (h : Stuck S L i k) : mt (L.drop k) (S.drop i) = false := by
 obtain ⟨hi, h⟩ := h
 rw [List.drop_eq_getElem_cons hi]
 rcases h with rfl | ⟨hk, _, hm, hf⟩
 ·simp [mt, hi]
 ·rw [List.drop_eq_getElem_cons hk, mt_cons hm, hf, Bool.false_and]
theorem inv_back {S : List UInt8} {L : List Pc} {i k q from' : Nat} (h : Inv S L i k (some q) from') (hs : Stuck S L i k) : Inv S L (from' + 1) (q + 1) (some q) (from' + 1) := by
 obtain ⟨h1, h2, h3, h4, h5⟩ := h.some' q rfl
 refine ⟨by have := hs.1; omega, by have := h.hk; omega, (fun h => by cases h), fun q' hq => ?_⟩
 obtain rfl : q = q' := by simpa using hq
 refine ⟨by omega, by omega, by omega, by simp [run], ?_⟩
 unfold Later
 unfold Later at h5
 rw [h5]
 clear h5
 constructor
 ·rintro ⟨j, hj1, hj2, hx⟩
  by_cases e : j = from'
  ·subst e; rw [h.here, hs.no] at hx; cases hx
  ·exact ⟨j, by omega, hj2, hx⟩
 ·rintro ⟨j, hj1, hj2, hx⟩; exact ⟨j, by omega, hj2, hx⟩
theorem inv_fail {S : List UInt8} {L : List Pc} {i k from' : Nat} (h : Inv S L i k none from') (hs : Stuck S L i k) : mt L S = false := by
 rw [(h.none' rfl).2, hs.no]
theorem inv_end {S : List UInt8} {L : List Pc} {k from' : Nat} {st : Option Nat} (h : Inv S L S.length k st from') : mt L S = mt (L.drop k) [] := by
 cases st with
 | none => rw [(h.none' rfl).2]; simp
 | some q =>
  obtain ⟨h1, h2, h3, h4, h5⟩ := h.some' q rfl
  have hh := h.here
  rw [List.drop_length] at hh
  unfold Later at h5
  rw [← hh, Bool.eq_iff_iff, h5]
  clear h5 hh
  constructor
  ·rintro ⟨j, hj1, hj2, hx⟩
   have hx' := hx
   rw [drop_take_drop L (q + 1) k (by omega)] at hx
   have he := (mt_eats _ _ _ (run_nostar _ _ h4) hx).1
   simp at he
   have hk := h.hk
   obtain rfl : j = from' := by omega
   exact hx'
  ·intro hx; exact ⟨from', Nat.le_refl _, h2, hx⟩
theorem mt_nil_all : ∀ l : List Pc, mt l [] = l.all (·.many)
 | [] => rfl
 | p :: l => by
  cases hp : p.many with
  | true =>
   rw [List.all_cons, hp, Bool.true_and, ← mt_nil_all l, Bool.eq_iff_iff, mt_many hp]
   constructor
   ·rintro ⟨j, _, h⟩; simpa using h
   ·intro h; exact ⟨0, Nat.le_refl _, by simpa using h⟩
  | false => rw [mt_none hp, List.all_cons, hp, Bool.false_and]
def stN : Option Nat → Nat
 | none => 0
 | some q => q + 1
def mmu (n m i : Nat) (st : Option Nat) (from' : Nat) : Nat := (m - stN st) * ((n + 2) * (n + 2)) + ((n + 1 - from') * (n + 2) + (n + 1 - i))
theorem mmu_star {n m i k from' : Nat} {st : Option Nat} (h1 : from' ≤ i) (h3 : k < m) (h4 : ∀ q, st = some q → q < k) : mmu n m i (some k) i < mmu n m i st from' := by
 unfold mmu
 have a : (n + 1 - i) * (n + 2) ≤ (n + 1 - from') * (n + 2) := Nat.mul_le_mul_right _ (by omega)
 have b : (m - (k + 1) + 1) * ((n + 2) * (n + 2)) ≤ (m - stN st) * ((n + 2) * (n + 2)) := Nat.mul_le_mul_right _ (by
  cases st with
  | none => simp [stN]; omega
  | some q => have := h4 q rfl; simp [stN]; omega)
 rw [Nat.add_mul, Nat.one_mul] at b
 have c : 0 < (n + 2) * (n + 2) := Nat.mul_pos (by omega) (by omega)
 show (m - (k + 1)) * ((n + 2) * (n + 2)) + _ < _
 omega
theorem mmu_fit {n m i from' : Nat} {st : Option Nat} (h2 : i < n) : mmu n m (i + 1) st from' < mmu n m i st from' := by
 unfold mmu; omega
theorem mmu_back {n m i q from' : Nat} (h1 : from' ≤ i) (h2 : i < n) : mmu n m (from' + 1) (some q) (from' + 1) < mmu n m i (some q) from' := by
 unfold mmu
 have a : (n + 1 - from') * (n + 2) = (n + 1 - (from' + 1)) * (n + 2) + (n + 2) := by
  rw [show n + 1 - from' = (n + 1 - (from' + 1)) + 1 by omega, Nat.add_mul, Nat.one_mul]
 omega
end Go.Proofs.YtpfbkdbblpppdaaGreatDoor
namespace Go.Proofs.YtpfbkdbblpppdaaGreatDoor
open Go.RowKit
def sml (c : UInt8) : UInt8 := if 65 ≤ c.toNat ∧ c.toNat ≤ 90 then c + 32 else c
theorem sml_up (c : UInt8) (h1 : 65 ≤ c.toNat) (h2 : c.toNat ≤ 90) : (sml c).toNat = c.toNat + 32 := by
 unfold sml; rw [if_pos ⟨h1, h2⟩, UInt8.toNat_add]; simp; omega
theorem sml_no (c : UInt8) (h : ¬ (65 ≤ c.toNat ∧ c.toNat ≤ 90)) : sml c = c := by unfold sml; rw [if_neg h]
theorem small_any (c : UInt8) (w : World) :
    Calls Tryz.prog 226 #[.int .u8 (c.toNat : Int)] w fun e w' => e = .returned (.int .u8 ((sml c).toNat : Int)) ∧ w = w' := by
 have hb : c.toNat < 256 := c.toNat_lt
 by_cases h : 65 ≤ c.toNat ∧ c.toNat ≤ 90
 ·obtain ⟨h1, h2⟩ := h
  have H := Lib.hid (sml_up c h1 h2)
  go_enter Tryz.func226, Tryz.ntmps226
  go_wp2
  go_ret
  exact ⟨ret_int (by rw [H.out]; omega), rfl⟩
 ·have H := Lib.hid (sml_no c h)
  by_cases h1 : 65 ≤ c.toNat
  ·have h2 : 90 < c.toNat := by omega
   clear h
   go_enter Tryz.func226, Tryz.ntmps226
   go_wp2
   go_ret
   exact ⟨ret_int (by rw [H.out]), rfl⟩
  ·clear h
   have h1' : c.toNat < 65 := by omega
   clear h1
   go_enter Tryz.func226, Tryz.ntmps226
   go_wp2
   go_ret
   exact ⟨ret_int (by rw [H.out]), rfl⟩
def foldL (l : List UInt8) : List UInt8 := l.map sml
theorem foldL_length (l : List UInt8) : (foldL l).length = l.length := by simp [foldL]
def foldTo (l : List UInt8) (i : Nat) : List UInt8 := (l.take i).map sml ++ l.drop i
theorem foldTo_length (l : List UInt8) (i : Nat) : (foldTo l i).length = l.length := by simp [foldTo]; omega
theorem foldTo_zero (l : List UInt8) : foldTo l 0 = l := by simp [foldTo]
theorem foldTo_all (l : List UInt8) : foldTo l l.length = foldL l := by simp [foldTo, foldL]
theorem foldTo_get (l : List UInt8) (i : Nat) (h : i < l.length) : (foldTo l i)[i]'(by rw [foldTo_length]; exact h) = l[i] := by
 simp only [foldTo]
 rw [List.getElem_append_right (by simp; omega)]
 simp [Nat.min_eq_left (Nat.le_of_lt h)]
theorem foldTo_step (l : List UInt8) (i : Nat) (h : i < l.length) : (foldTo l i).set i (sml l[i]) = foldTo l (i + 1) := by
 unfold foldTo
 rw [List.set_append_right _ _ (by simp; omega), List.take_succ_eq_append_getElem h, List.map_append, List.append_assoc]
 congr 1
 rw [List.length_map, List.length_take, Nat.min_eq_left (Nat.le_of_lt h), Nat.sub_self, List.drop_eq_getElem_cons h]
 rfl
theorem fold_any (s : ByteArray) (w : World) (hs : s.size ≤ 9223372036854775807) :
    Calls Tryz.prog 203 #[.string s] w fun e w' => e = .returned (.string ⟨(foldL s.data.toList).toArray⟩) ∧ Below w.heap.size w w' := by
 have kc := Lib.run_convert_string_bytes (P := Tryz.prog) w 9 134 5 s Tryz.underlying9 Tryz.underlying134 Tryz.underlying5
 have hH := HasB.fresh w 5 s
 have hB := bytesWorld_below w 5 s
 obtain ⟨cap, hcap⟩ : ∃ cap, cap = grownCap w s.size 0 5 := ⟨_, rfl⟩
 obtain ⟨w1, hw1⟩ : ∃ w1, w1 = Lib.bytesWorld w 5 s := ⟨_, rfl⟩
 rw [← hcap, ← hw1] at kc
 rw [← hw1] at hH hB
 clear hcap hw1
 obtain ⟨l, hl⟩ : ∃ l, l = s.data.toList := ⟨_, rfl⟩
 have hls : s.size = l.length := by rw [hl]; simp
 rw [← hl] at hH ⊢
 rw [hls] at kc hs
 have HL := Lib.hid hls
 clear hl hls
 go_enter Tryz.func203, Tryz.ntmps203
 go_wp2_with fail
 go_loopw [4, 5, 10] (fun _ _ i wr => ∃ k : Nat, k ≤ l.length ∧ i = .int .i64 k ∧ HasB wr w.heap.size (foldTo l k) ∧ Below w.heap.size w wr) (fun _ _ i _ => l.length - (intOf i).toNat)
 case atStart => exact ⟨0, Nat.zero_le _, rfl, by rw [foldTo_zero]; exact hH, hB⟩
 case round =>
  obtain ⟨k, hk, rfl, hh, hb⟩ := hrel
  clear hH hB kc
  by_cases hlt : k < l.length
  ·have hc : wr.cell? ⟨w.heap.size, k, none⟩ = some (.int .u8 (l[k].toNat : Int)) := by
    rw [hh.1 k (by rw [foldTo_length]; exact hlt), foldTo_get l k hlt]
   have hf : wr.frozen? ⟨w.heap.size, k, none⟩ = false := hh.2 k (by rw [foldTo_length]; exact hlt)
   have HS := Lib.hid (foldTo_step l k hlt ▸ hh.stored k (sml l[k]))
   go_wp2_with (go_at_call 226; refine (small_any _ _).mono ?_; rintro e w' ⟨rfl, rfl⟩)
   go_roundw
   case rel => exact ⟨k + 1, by omega, by go_num, HS.out, hb.setCell (Nat.le_refl _) _⟩
   case measure => simp [intOf]; omega
  ·obtain rfl : k = l.length := by omega
   rw [foldTo_all] at hh
   have hcv := hh.str cap Tryz.underlying134 Tryz.underlying5 Tryz.underlying9
   rw [foldL_length] at hcv
   go_wp2
   go_ret
   exact ⟨rfl, hb⟩
def Pc.cells (p : Pc) : List Value := [.int .u8 (p.c.toNat : Int), .bool p.one, .bool p.many]
def pcells (l : List Pc) : List Value := l.flatMap Pc.cells
theorem pcells_append (l m : List Pc) : pcells (l ++ m) = pcells l ++ pcells m := by simp [pcells]
theorem pcells_get : ∀ (l : List Pc) (i : Nat) (h : i < l.length), (pcells l)[i * 3]? = some (.int .u8 (l[i].c.toNat : Int)) ∧ (pcells l)[i * 3 + 1]? = some (.bool l[i].one) ∧ (pcells l)[i * 3 + 2]? = some (.bool l[i].many)
 | p :: l, 0, _ => by simp [pcells, Pc.cells]
 | p :: l, i + 1, h => by
  have ih := pcells_get l i (by simpa using h)
  have e : ∀ j, (pcells (p :: l))[(i + 1) * 3 + j]? = (pcells l)[i * 3 + j]? := by
   intro j
   rw [show (i + 1) * 3 + j = 3 + (i * 3 + j) by omega]
   show (Pc.cells p ++ pcells l)[3 + (i * 3 + j)]? = _
   rw [List.getElem?_append_right (by simp [Pc.cells])]
   simp [Pc.cells]
  have e0 := e 0
  simp only [Nat.add_zero] at e0
  exact ⟨e0 ▸ ih.1, e 1 ▸ ih.2.1, e 2 ▸ ih.2.2⟩
def stI : Option Nat → Int
 | none => -1
 | some q => q
def stOf (v : Value) : Option Nat := if intOf v < 0 then none else some (intOf v).toNat
theorem stOf_stI (so : Option Nat) : stOf (.int .i64 (stI so)) = so := by
 cases so with
 | none => rfl
 | some q => unfold stOf; show (if (q : Int) < 0 then none else some ((q : Int)).toNat) = some q; rw [if_neg (by omega)]; simp
theorem stOf_nat (q : Nat) : stOf (.int .i64 (q : Int)) = some q := stOf_stI (some q)
theorem toNat_succ (k : Nat) : ((k : Int) + 1).toNat = k + 1 := by omega
theorem matches_row (s : ByteArray) (g cap : Nat) (L : List Pc) (w : World) (hs : s.size ≤ 1000000) (hn : L.length ≤ 1000000)
    (hc : ∀ i (h : i < L.length), w.cell? ⟨g, i * 3, none⟩ = some (.int .u8 (L[i].c.toNat : Int)) ∧ w.cell? ⟨g, i * 3 + 1, none⟩ = some (.bool L[i].one) ∧ w.cell? ⟨g, i * 3 + 2, none⟩ = some (.bool L[i].many)) :
    Calls Tryz.prog 205 #[.string s, .slice (some ⟨g, 0, none⟩) L.length cap] w fun e w' => e = .returned (.bool (mt L s.data.toList)) ∧ ∃ n, w' = w.drewN n := by
 obtain ⟨S, hS⟩ : ∃ S, S = s.data.toList := ⟨_, rfl⟩
 have hlen : s.size = S.length := by rw [hS]; simp
 have hget : ∀ i (h : i < s.size) (h' : i < S.length), s[i] = S[i] := by intro i h h'; subst hS; rfl
 rw [← hS]
 have HC := Lib.hid hc; clear hc hS
 have HG := Lib.hid hget; clear hget
 have HLEN := Lib.hid hlen; clear hlen
 obtain ⟨n, hnn⟩ : ∃ n, n = L.length := ⟨_, rfl⟩
 rw [← hnn]
 have HN := Lib.hid hnn; 
 rw [← hnn] at hn
 clear hnn
 go_enter Tryz.func205, Tryz.ntmps205
 go_wp2
 go_loopw [5, 6, 7, 8] (fun i k st fr wr => ∃ (i' k' f' : Nat) (so : Option Nat) (m : Nat), i = .int .i64 i' ∧ k = .int .i64 k' ∧ st = .int .i64 (stI so) ∧ fr = .int .i64 f' ∧ Inv S L i' k' so f' ∧ wr = w.drewN m)
  (fun i k st fr _ => mmu s.size n (intOf i).toNat (stOf st) (intOf fr).toNat)
 case atStart => exact ⟨0, 0, 0, none, 0, rfl, rfl, rfl, rfl, inv_start S L, rfl⟩
 case round =>
  obtain ⟨i, k, f, so, m, rfl, rfl, rfl, rfl, hinv, rfl⟩ := hrel
  have hi := hinv.hi
  have hk := hinv.hk
  rw [← HLEN.out] at hi
  rw [← HN.out] at hk
  have HI := Lib.hid hinv; clear hinv
  by_cases hlt : i < s.size
  ·by_cases hkn : k < n
   ·have hkL : k < L.length := by rw [← HN.out]; exact hkn
    obtain ⟨c0, c1, c2⟩ := HC.out k hkL
    cases hm : L[k].many with
    | true =>
     rw [hm] at c2
     have HM := Lib.hid hm; clear hm
     go_wp2
     go_roundw
     case rel => exact ⟨i, k + 1, i, some k, m, rfl, by go_num, rfl, rfl, inv_star HI.out hkL HM.out, rfl⟩
     case measure =>
      have hmu := @mmu_star s.size n i k f so
      simp only [intOf, stOf_stI, stOf_nat, Int.toNat_natCast]
      exact hmu (by cases so with
       | none => rw [((HI.out).none' rfl).1]; exact Nat.zero_le _
       | some q => exact ((HI.out).some' q rfl).2.1) hkn (fun q hq => ((HI.out).some' q hq).1)
    | false =>
     rw [hm] at c2
     have HM := Lib.hid hm; clear hm
     cases h1 : L[k].one with
     | true =>
      rw [h1] at c1
      have HF : Hid (L[k].fits (S[i]'(by rw [← HLEN.out]; exact hlt)) = true) := by unfold Hid Pc.fits; rw [h1]; rfl
      clear h1
      go_wp2
      go_quiet (fail)
      go_wp2
      go_roundw
      case rel => exact ⟨i + 1, k + 1, f, so, _, by go_num, by go_num, rfl, rfl, inv_fit HI.out (by rw [← HLEN.out]; exact hlt) hkL HM.out HF.out, rfl⟩
      case measure => simp only [intOf, stOf_stI, Int.toNat_natCast, toNat_succ]; exact mmu_fit hlt
     | false =>
      rw [h1] at c1
      by_cases he : L[k].c = s[i]
      ·have HF : Hid (L[k].fits (S[i]'(by rw [← HLEN.out]; exact hlt)) = true) := by unfold Hid Pc.fits; rw [h1, he, HG.out i hlt (by rw [← HLEN.out]; exact hlt)]; simp
       rw [he] at c0
       clear he h1
       go_wp2
       go_quiet (fail)
       go_wp2
       go_roundw
       case rel => exact ⟨i + 1, k + 1, f, so, _, by go_num, by go_num, rfl, rfl, inv_fit HI.out (by rw [← HLEN.out]; exact hlt) hkL HM.out HF.out, rfl⟩
       case measure => simp only [intOf, stOf_stI, Int.toNat_natCast, toNat_succ]; exact mmu_fit hlt
      ·have HS : Hid (Stuck S L i k) := by
        refine ⟨by rw [← HLEN.out]; exact hlt, .inr ⟨hkL, by rw [← HLEN.out]; exact hlt, HM.out, ?_⟩⟩
        unfold Pc.fits
        rw [h1, ← HG.out i hlt (by rw [← HLEN.out]; exact hlt)]
        simpa using he
       have hd : ((L[k].c.toNat : Int) == (s[i].toNat : Int)) = false := by
        rw [beq_eq_false_iff_ne]; intro e; exact he (UInt8.toNat_inj.1 (by omega))
       clear he h1
       cases so with
       | none =>
        rw [show stI none = -1 from rfl]
        go_wp2
        go_quiet (fail)
        go_wp2
        go_ret
        exact ⟨by rw [inv_fail HI.out HS.out]; rfl, ⟨_, rfl⟩⟩
       | some q =>
        rw [show stI (some q) = (q : Int) from rfl]
        have hq : q < k := ((HI.out).some' q rfl).1
        have hf : f ≤ i := ((HI.out).some' q rfl).2.1
        go_wp2
        go_quiet (fail)
        go_wp2
        go_roundw
        case rel => exact ⟨f + 1, q + 1, f + 1, some q, _, by go_num, by go_num, rfl, by go_num, inv_back HI.out HS.out, rfl⟩
        case measure => simp only [intOf, stOf_nat, Int.toNat_natCast, toNat_succ]; exact mmu_back hf hlt
   ·have HS : Hid (Stuck S L i k) := ⟨by rw [← HLEN.out]; exact hlt, .inl (by rw [← HN.out]; omega)⟩
    have hd : decide (k < n) = false := by simpa using hkn
    cases so with
    | none =>
     rw [show stI none = -1 from rfl]
     go_wp2
     go_quiet (fail)
     go_wp2
     go_ret
     exact ⟨by rw [inv_fail HI.out HS.out]; rfl, ⟨_, rfl⟩⟩
    | some q =>
     rw [show stI (some q) = (q : Int) from rfl]
     have hq : q < k := ((HI.out).some' q rfl).1
     have hf : f ≤ i := ((HI.out).some' q rfl).2.1
     go_wp2
     go_quiet (fail)
     go_wp2
     go_roundw
     case rel => exact ⟨f + 1, q + 1, f + 1, some q, _, by go_num, by go_num, rfl, by go_num, inv_back HI.out HS.out, rfl⟩
     case measure => simp only [intOf, stOf_nat, Int.toNat_natCast, toNat_succ]; exact mmu_back hf hlt
  ·have HE : Hid (mt L S = mt (L.drop k) []) := by
    have hI := HI.out
    have e : i = S.length := by rw [← HLEN.out]; omega
    rw [e] at hI
    exact inv_end hI
   clear HI
   go_wp2_with fail
   go_loopw [6] (fun k wr => ∃ (k' : Nat), k' ≤ n ∧ k = .int .i64 k' ∧ Hid (mt L S = mt (L.drop k') []) ∧ wr = w.drewN m)
    (fun k _ => n - (intOf k).toNat)
   case atStart => exact ⟨k, hk, rfl, HE, rfl⟩
   case round =>
    clear HE hk
    obtain ⟨k, hk, rfl, HE, rfl⟩ := hrel
    by_cases hkn : k < n
    ·have hkL : k < L.length := by rw [← HN.out]; exact hkn
     obtain ⟨c0, c1, c2⟩ := HC.out k hkL
     cases hm : L[k].many with
     | true =>
      rw [hm] at c2
      have HE2 : Hid (mt L S = mt (L.drop (k + 1)) []) := by
       unfold Hid
       rw [HE.out, mt_nil_all, mt_nil_all, List.drop_eq_getElem_cons hkL, List.all_cons, hm, Bool.true_and]
      clear hm
      go_wp2
      go_roundw
      case rel => exact ⟨k + 1, by omega, by go_num, HE2, trivial⟩
      case measure => simp [intOf]; omega
     | false =>
      rw [hm] at c2
      have HE2 : Hid (mt L S = false) := by
       unfold Hid
       rw [HE.out, mt_nil_all, List.drop_eq_getElem_cons hkL, List.all_cons, hm, Bool.false_and]
      clear hm
      have hne : ((k : Int) == (n : Int)) = false := by simp; omega
      go_wp2
      go_ret
      exact ⟨by rw [HE2.out]; rfl, ⟨_, rfl⟩⟩
    ·obtain rfl : k = n := by omega
     have HE2 : Hid (mt L S = true) := by
      unfold Hid
      rw [HE.out, HN.out, List.drop_length]; rfl
     go_wp2
     go_ret
     exact ⟨by rw [HE2.out]; rfl, ⟨_, rfl⟩⟩
theorem matches_nil (s : ByteArray) (w : World) (hs : s.size ≤ 1000000) :
    Calls Tryz.prog 205 #[.string s, .slice none 0 0] w fun e w' => e = .returned (.bool (mt [] s.data.toList)) ∧ ∃ n, w' = w.drewN n := by
 by_cases h : 0 < s.size
 ·have HM : Hid (mt [] s.data.toList = false) := by
   unfold Hid mt
   cases hl : s.data.toList with
   | nil =>
    have h1 : s.data.toList.length = 0 := by rw [hl]; rfl
    have h2 : s.data.toList.length = s.size := by simp
    omega
   | cons a l => rfl
  go_enter Tryz.func205, Tryz.ntmps205
  go_wp2
  refine wp_loop_rounds 1 ?_
  rw [rounds_succ]
  go_wp2
  go_quiet (fail)
  go_wp2
  go_ret
  exact ⟨by rw [HM.out]; rfl, ⟨_, rfl⟩⟩
 ·have HM : Hid (mt [] s.data.toList = true) := by
   unfold Hid mt
   cases hl : s.data.toList with
   | nil => rfl
   | cons a l =>
    have h1 : s.data.toList.length = l.length + 1 := by rw [hl]; rfl
    have h2 : s.data.toList.length = s.size := by simp
    omega
  have h0 : s.size = 0 := by omega
  have hz : s.size ≤ 0 := by omega
  clear h0 h
  go_enter Tryz.func205, Tryz.ntmps205
  go_wp2
  refine wp_loop_rounds 1 ?_
  rw [rounds_succ]
  go_wp2
  refine wp_loop_rounds 1 ?_
  rw [rounds_succ]
  go_wp2
  go_ret
  exact ⟨by rw [HM.out]; rfl, ⟨0, rfl⟩⟩
theorem matches_own {w : World} {n₀ : Nat} {v : Value} {L : List Pc} (h : w.ownsRow n₀ 291 3 v L.length (pcells L)) (s : ByteArray) (hs : s.size ≤ 1000000) (hn : L.length ≤ 1000000) :
    Calls Tryz.prog 205 #[.string s, v] w fun e w' => e = .returned (.bool (mt L s.data.toList)) ∧ ∃ n, w' = w.drewN n := by
 have h0 := h
 rcases h.2 with ⟨rfl, hl⟩ | ⟨g, cap, cur, rfl, _, hg, _, _, _, htake⟩
 ·obtain rfl : L = [] := List.eq_nil_of_length_eq_zero hl
  exact matches_nil s w hs
 ·refine matches_row s g cap L w hs hn fun i hi => ?_
  have hc := fun j u hu => World.ownsRow.cells h0 (g := g) rfl j u hu
  simp only [Addr.add_lit, Nat.zero_add] at hc
  have hp := pcells_get L i hi
  exact ⟨hc _ _ hp.1, hc _ _ hp.2.1, hc _ _ hp.2.2⟩
end Go.Proofs.YtpfbkdbblpppdaaGreatDoor
namespace Go.Proofs.YtpfbkdbblpppdaaGreatDoor
open Go.RowKit Go.Shelf
attribute [local go_sem] Oper.semAt_some
theorem pcs_drop_esc (S : List UInt8) (k : Nat) (h : k + 1 < S.length) (he : S[k] = 92) : pcsG false (S.drop k) = ⟨S[k + 1], false, false⟩ :: pcsG false (S.drop (k + 2)) := by
 rw [List.drop_eq_getElem_cons (by omega), pcsG, if_pos he, List.drop_eq_getElem_cons h, pcsG]
theorem pcs_drop_end (S : List UInt8) (k : Nat) (h : k + 1 = S.length) (he : S[k] = 92) : pcsG false (S.drop k) = ⟨92, false, false⟩ :: pcsG false (S.drop (k + 1)) := by
 rw [List.drop_eq_getElem_cons (by omega), pcsG, if_pos he, List.drop_eq_nil_of_le (by omega)]; rfl
theorem pcs_drop_plain (S : List UInt8) (k : Nat) (h : k < S.length) (he : S[k] ≠ 92) : pcsG false (S.drop k) = ⟨S[k], (S[k].toNat : Int) == 63, (S[k].toNat : Int) == 42⟩ :: pcsG false (S.drop (k + 1)) := by
 rw [List.drop_eq_getElem_cons h, pcsG, if_neg he]
theorem pcsG_length : ∀ (l : List UInt8), (pcsG false l).length ≤ l.length ∧ (pcsG true l).length ≤ l.length + 1
 | [] => by simp [pcsG]
 | c :: r => by
  have ih := pcsG_length r
  refine ⟨?_, ?_⟩
  ·unfold pcsG
   split
   ·simp; omega
   ·simp; omega
  ·simp [pcsG]; omega
theorem pcs_length (l : List UInt8) : (pcs l).length ≤ l.length := (pcsG_length l).1
theorem grown_alloc_drew (w : World) (o : Obj) (row : Option Nat) : w.grownBy (w.alloc o).drew row :=
 ⟨rfl, rfl, rfl, by simp, fun k hk _ => by first | exact heap_alloc_old w o k hk | exact heap_alloc_old w o hk⟩
def KeepsCell (b : Nat) (W W' : World) : Prop := W'.cell? ⟨b, 0, none⟩ = W.cell? ⟨b, 0, none⟩ ∧ W.heap.size ≤ W'.heap.size
theorem KeepsCell.trans {b : Nat} {A B C : World} (h : KeepsCell b A B) (k : KeepsCell b B C) : KeepsCell b A C := ⟨k.1.trans h.1, Nat.le_trans h.2 k.2⟩
theorem KeepsCell.of_grown {b : Nat} {W W' : World} {v : Value} (hg : W.grownBy W' none) (hc : W.cell? ⟨b, 0, none⟩ = some v) : KeepsCell b W W' :=
 ⟨(hg.cell hc (by simp)).trans hc.symm, hg.size⟩
theorem KeepsCell.put {b : Nat} {w : World} (hb : b < w.heap.size) (W : World) (l : Nat) (o o' : Obj) (hl : w.heap.size ≤ l) (_ : W.heap[l]? = some o) (_ : o.isCells = false) (_ : o.isWalk = false) : KeepsCell b W (W.putObj l o') :=
 ⟨World.cell?_of_block (World.putObj_heap_other (by show b ≠ l; omega)), by simp⟩
def pcVal (p : Pc) : Value := .agg #[.int .u8 (p.c.toNat : Int), .bool p.one, .bool p.many]
theorem pieces1_in (n : Nat) (hn : 1 ≤ n) (l Bn : Nat) (s : ByteArray) (hs : s.size ≤ 1000000) (J Jx : List Pc → World → Prop)
    (hY : ∀ pre x W, J pre W → pre.length < (pcs s.data.toList).length → YieldAt Fence.wide (n - 1) Tryz.prog l #[pcVal x] W fun e W' =>
     (e = .returned (.bool true) ∧ J (pre ++ [x]) W' ∧ KeepsCell Bn W W') ∨ (e = .returned (.bool false) ∧ Jx (pre ++ [x]) W'))
    (hJ : ∀ pre W W', J pre W → W.grownBy W' none → J pre W')
    (W : World) (hBn : W.cell? ⟨Bn, 0, none⟩ = some (.string s)) (h0 : J [] W) :
    CallsIn Fence.wide n Tryz.prog 227 #[.func (.yield l) #[] #[], .pointer (some ⟨Bn, 0, none⟩)] W fun e W' => (∃ v, e = .returned v) ∧
     ((∃ ys, ys = pcs s.data.toList ∧ J ys W') ∨ (∃ pre, pre <+: pcs s.data.toList ∧ Jx pre W')) := by
 obtain ⟨S, hS⟩ : ∃ S, S = s.data.toList := ⟨_, rfl⟩
 have hlen : s.size = S.length := by rw [hS]; simp
 have hget : ∀ i (h : i < s.size) (h' : i < S.length), s[i] = S[i] := by intro i h h'; subst hS; rfl
 rw [← hS] at hY ⊢
 clear hS
 have HG := Lib.hid hget; clear hget
 have HLEN := Lib.hid hlen; clear hlen
 have HY := Lib.hid hY; clear hY
 have HJ := Lib.hid hJ; clear hJ
 refine callsIn_of_wp Tryz.func227 rfl trivial ?_ rfl
 simp only [Tryz.ntmps227, List.size_toArray, List.length_cons, List.length_nil, Nat.reduceAdd, Nat.reduceSub, Array.replicate_succ, Array.replicate_zero, List.push_toArray, List.append_toArray, List.nil_append, List.cons_append]
 gi_wp2
 gi_loopw [3] (fun i wr => ∃ (k : Nat) (pre : List Pc), k ≤ s.size ∧ i = .int .i64 k ∧ Hid (pcs S = pre ++ pcsG false (S.drop k)) ∧ J pre wr ∧ wr.cell? ⟨Bn, 0, none⟩ = some (.string s))
  (fun i _ => s.size - (intOf i).toNat)
 case atStart => exact ⟨0, [], Nat.zero_le _, rfl, rfl, h0, hBn⟩
 case round =>
  obtain ⟨k, pre, hk, rfl, hx, hJs, hc⟩ := hrel
  clear h0 hBn
  by_cases hlt : k < s.size
  ·by_cases he : s[k] = 92
   ·have hd : ((s[k].toNat : Int) == 92) = true := by rw [he]; rfl
    have HE : Hid (S[k]'(by rw [← HLEN.out]; exact hlt) = 92) := by unfold Hid; rw [← HG.out k hlt]; exact he
    have HE' : Hid (s[k] = 92) := he
    clear he
    have hca : ∀ o, (wr.alloc o).cell? ⟨Bn, 0, none⟩ = some (.string s) := fun o => (World.grownBy_alloc wr o none).cell hc (by simp)
    by_cases h2 : k + 1 < s.size
    ·have hp := pcs_drop_esc S k (by rw [← HLEN.out]; exact h2) HE.out
     obtain ⟨W1, hW1⟩ : ∃ W1, W1 = (wr.alloc (.cells #[.int .u8 (s[k + 1].toNat : Int), .bool false, .bool false] 291)).drew := ⟨_, rfl⟩
     obtain ⟨x, hx'⟩ : ∃ x : Pc, x = ⟨s[k + 1], false, false⟩ := ⟨_, rfl⟩
     rw [← HG.out (k + 1) h2, ← hx'] at hp
     have hx2 : Hid (pcs S = (pre ++ [x]) ++ pcsG false (S.drop (k + 2))) := by unfold Hid; rw [hx.out, hp]; simp
     have hJ1 : J pre W1 := HJ.out pre wr W1 hJs (by rw [hW1]; exact grown_alloc_drew _ _ _)
     have hb1 : KeepsCell Bn wr W1 := KeepsCell.of_grown (by rw [hW1]; exact grown_alloc_drew _ _ _) hc
     obtain ⟨fn, tmps, assign, body, hy, hR⟩ := HY.out pre x W1 hJ1 (by rw [hx2.out]; simp)
     have hx3 : Hid (pre ++ [x] <+: pcs S) := ⟨_, hx2.out.symm⟩
     rw [hx', hW1] at hy
     rw [hW1] at hR hb1
     have HB := Lib.hid hb1; clear hb1
     clear hW1 hJ1 hp
     simp only [pcVal] at hy
     gi_wp2_with fail
     refine wpIn_wide.2 ?_
     go_region
     gi_wp2_with fail
     refine hR.mono ?_
     rintro e W3 (⟨rfl, hJ3, hk3⟩ | ⟨rfl, hJx3⟩)
     ·gi_wp2
      go_roundw
      case rel => exact ⟨k + 2, pre ++ [x], by omega, by go_num, hx2, hJ3, ((HB.out).trans hk3).1.trans hc⟩
      case measure => simp [intOf]; omega
     ·gi_wp2
      refine bodyPost_ret (results_none rfl _ _ _) rfl ?_
      exact ⟨⟨_, rfl⟩, .inr ⟨pre ++ [x], hx3.out, hJx3⟩⟩
    ·have hp := pcs_drop_end S k (by rw [← HLEN.out]; omega) HE.out
     obtain ⟨W1, hW1⟩ : ∃ W1, W1 = (wr.alloc (.cells #[.int .u8 (s[k].toNat : Int), .bool ((s[k].toNat : Int) == 63), .bool ((s[k].toNat : Int) == 42)] 291)).drew := ⟨_, rfl⟩
     obtain ⟨x, hx'⟩ : ∃ x : Pc, x = ⟨s[k], (s[k].toNat : Int) == 63, (s[k].toNat : Int) == 42⟩ := ⟨_, rfl⟩
     have hx92 : x = ⟨92, false, false⟩ := by rw [hx', HE'.out]; rfl
     rw [← hx92] at hp
     have hx2 : Hid (pcs S = (pre ++ [x]) ++ pcsG false (S.drop (k + 1))) := by unfold Hid; rw [hx.out, hp]; simp
     clear hx92
     have hJ1 : J pre W1 := HJ.out pre wr W1 hJs (by rw [hW1]; exact grown_alloc_drew _ _ _)
     have hb1 : KeepsCell Bn wr W1 := KeepsCell.of_grown (by rw [hW1]; exact grown_alloc_drew _ _ _) hc
     obtain ⟨fn, tmps, assign, body, hy, hR⟩ := HY.out pre x W1 hJ1 (by rw [hx2.out]; simp)
     have hx3 : Hid (pre ++ [x] <+: pcs S) := ⟨_, hx2.out.symm⟩
     rw [hx', hW1] at hy
     rw [hW1] at hR hb1
     have HB := Lib.hid hb1; clear hb1
     clear hW1 hJ1 hp
     simp only [pcVal] at hy
     gi_wp2_with fail
     refine wpIn_wide.2 ?_
     go_region
     gi_wp2_with fail
     refine hR.mono ?_
     rintro e W3 (⟨rfl, hJ3, hk3⟩ | ⟨rfl, hJx3⟩)
     ·gi_wp2
      go_roundw
      case rel => exact ⟨k + 1, pre ++ [x], by omega, by go_num, hx2, hJ3, ((HB.out).trans hk3).1.trans hc⟩
      case measure => simp [intOf]; omega
     ·gi_wp2
      refine bodyPost_ret (results_none rfl _ _ _) rfl ?_
      exact ⟨⟨_, rfl⟩, .inr ⟨pre ++ [x], hx3.out, hJx3⟩⟩
   ·have hd : ((s[k].toNat : Int) == 92) = false := by
     rw [beq_eq_false_iff_ne]; intro e; exact he (UInt8.toNat_inj.1 (by show s[k].toNat = 92; omega))
    have hp := pcs_drop_plain S k (by rw [← HLEN.out]; exact hlt) (by rw [← HG.out k hlt]; exact he)
    clear he
    have hca : ∀ o, (wr.alloc o).cell? ⟨Bn, 0, none⟩ = some (.string s) := fun o => (World.grownBy_alloc wr o none).cell hc (by simp)
    obtain ⟨W1, hW1⟩ : ∃ W1, W1 = (wr.alloc (.cells #[.int .u8 (s[k].toNat : Int), .bool ((s[k].toNat : Int) == 63), .bool ((s[k].toNat : Int) == 42)] 291)).drew := ⟨_, rfl⟩
    obtain ⟨x, hx'⟩ : ∃ x : Pc, x = ⟨s[k], (s[k].toNat : Int) == 63, (s[k].toNat : Int) == 42⟩ := ⟨_, rfl⟩
    rw [← HG.out k hlt, ← hx'] at hp
    have hx2 : Hid (pcs S = (pre ++ [x]) ++ pcsG false (S.drop (k + 1))) := by unfold Hid; rw [hx.out, hp]; simp
    have hJ1 : J pre W1 := HJ.out pre wr W1 hJs (by rw [hW1]; exact grown_alloc_drew _ _ _)
    have hb1 : KeepsCell Bn wr W1 := KeepsCell.of_grown (by rw [hW1]; exact grown_alloc_drew _ _ _) hc
    obtain ⟨fn, tmps, assign, body, hy, hR⟩ := HY.out pre x W1 hJ1 (by rw [hx2.out]; simp)
    have hx3 : Hid (pre ++ [x] <+: pcs S) := ⟨_, hx2.out.symm⟩
    rw [hx', hW1] at hy
    rw [hW1] at hR hb1
    have HB := Lib.hid hb1; clear hb1
    clear hW1 hJ1 hp
    simp only [pcVal] at hy
    gi_wp2_with fail
    refine wpIn_wide.2 ?_
    go_region
    gi_wp2_with fail
    refine hR.mono ?_
    rintro e W3 (⟨rfl, hJ3, hk3⟩ | ⟨rfl, hJx3⟩)
    ·gi_wp2
     go_roundw
     case rel => exact ⟨k + 1, pre ++ [x], by omega, by go_num, hx2, hJ3, ((HB.out).trans hk3).1.trans hc⟩
     case measure => simp [intOf]; omega
    ·gi_wp2
     refine bodyPost_ret (results_none rfl _ _ _) rfl ?_
     exact ⟨⟨_, rfl⟩, .inr ⟨pre ++ [x], hx3.out, hJx3⟩⟩
  ·have hx4 : Hid (pre = pcs S) := by
    unfold Hid; rw [hx.out, List.drop_eq_nil_of_le (by rw [← HLEN.out]; omega)]; simp [pcsG]
   gi_wp2
   go_end0
   exact ⟨⟨_, rfl⟩, .inl ⟨pre, hx4.out, hJs⟩⟩
theorem pieces_in (n : Nat) (s : ByteArray) (w : World) :
    CallsIn Fence.wide n Tryz.prog 204 #[.string s] w fun e w' => e = .returned (.func (.func 227) #[] #[.pointer (some ⟨w.heap.size, 0, none⟩)]) ∧ w' = w.alloc (.cells #[.string s] 9) := by
 refine callsIn_wide.2 ?_
 go_enter Tryz.func204, Tryz.ntmps204
 go_wp2
 go_ret
 exact ⟨rfl, rfl⟩
theorem pieces_stops (n : Nat) (hn : 1 ≤ n) (Bn : Nat) (s : ByteArray) (hs : s.size ≤ 1000000) (w : World) (hBn : Bn < w.heap.size) (hc : w.cell? ⟨Bn, 0, none⟩ = some (.string s)) :
    SeqStopsK Fence.wide n Tryz.prog 227 #[.pointer (some ⟨Bn, 0, none⟩)] (fun x : Pc => #[pcVal x]) (KeepsCell Bn) (fun ys => ys = pcs s.data.toList) (fun pre => pre <+: pcs s.data.toList) (pcs s.data.toList).length w :=
 fun l J Jx W hW hJ _ hY h0 => pieces1_in n hn l Bn s hs J Jx hY (fun pre W W' h hg => hJ pre W W' none h hg (by simp)) W ((hW.cell (p := ⟨Bn, 0, none⟩) hBn).trans hc) h0
attribute [local go_sem] Oper.semAt_some
theorem infoPc : (Tryz.prog.info? 291).map (fun i => (i.zero, i.size, i.bytes)) = some (some (.agg #[.int .u8 0, .bool false, .bool false]), 3, 3) := by kernel_rfl
def Boxed3 (W : World) (B : Nat) (p : Pc) : Prop := W.heap[B]? = some (.cells #[.int .u8 (p.c.toNat : Int), .bool p.one, .bool p.many] 291 (0, 0))
theorem Boxed3.lt {W : World} {B : Nat} {p : Pc} (h : Boxed3 W B p) : B < W.heap.size := (Array.getElem?_eq_some_iff.1 h).1
theorem Boxed3.c0 {W : World} {B : Nat} {p : Pc} (h : Boxed3 W B p) : W.cell? ⟨B, 0, none⟩ = some (.int .u8 (p.c.toNat : Int)) := by simp [World.cell?, show W.heap[B]? = _ from h]
theorem Boxed3.c1 {W : World} {B : Nat} {p : Pc} (h : Boxed3 W B p) : W.cell? ⟨B, 1, none⟩ = some (.bool p.one) := by simp [World.cell?, show W.heap[B]? = _ from h]
theorem Boxed3.c2 {W : World} {B : Nat} {p : Pc} (h : Boxed3 W B p) : W.cell? ⟨B, 2, none⟩ = some (.bool p.many) := by simp [World.cell?, show W.heap[B]? = _ from h]
def Coll (n₀ B : Nat) (s : ByteArray) (pre : List Pc) (W : World) : Prop :=
 (∃ v, Boxed W B 287 v ∧ W.ownsRow n₀ 291 3 v pre.length (pcells pre)) ∧ Boxed W (B + 1) 9 (.string s)
theorem cell_three_new (w : World) (a b c : Value) (t : TypeId) : ∀ j u, [a, b, c][j]? = some u → (w.alloc (.cells #[a, b, c] t)).cell? ((⟨w.heap.size, 0, none⟩ : Addr).add j) = some u := by
 intro j u hu
 have hh : (w.alloc (.cells #[a, b, c] t)).heap[w.heap.size]? = some (.cells #[a, b, c] t (0, 0)) := World.alloc_heap_new w _
 rw [Addr.add_lit, Nat.zero_add]
 simp only [World.cell?, hh]
 simpa using hu
theorem coll_own (n₀ B : Nat) (s : ByteArray) : Own (Coll n₀ B s) := by
 rintro pre X Y row ⟨h1, h2⟩ hg hr
 obtain ⟨v, a, b, _⟩ := holdsRow_own (β := List Pc) n₀ B 287 291 3 (fun l => l.length) pcells (fun _ _ => True) pre X Y row (by obtain ⟨v, a, b⟩ := h1; exact ⟨v, a, b, trivial⟩) hg hr
 exact ⟨⟨v, a, b⟩, boxed_own (β := Unit) (B + 1) 9 (fun _ => .string s) () X Y row h2 hg hr⟩
theorem boxed3_kept {W W' : World} {B : Nat} {p : Pc} {row : Option Nat} (h : Boxed3 W B p) (hg : W.grownBy W' row) (hr : ∀ r, row = some r → ∃ o : Obj, W.heap[r]? = some o ∧ o.isCells = false) : Boxed3 W' B p := by
 refine (hg.block B h.lt fun e => ?_).trans h
 obtain ⟨o, ho, hc⟩ := hr B e.symm
 rw [show W.heap[B]? = _ from h] at ho; cases ho; cases hc
theorem match3_in (n : Nat) (hn : 5 ≤ n) (s p : ByteArray) (w : World) (hs : s.size ≤ 2000) (hp : p.size ≤ 100) :
    CallsIn Fence.wide n Tryz.prog 173 #[.int .i64 3, .string s, .string p] w fun e w' => e = .returned (.tuple #[.bool (mt (pcs (foldL p.data.toList)) (foldL s.data.toList)), .int .i64 0]) ∧ Below w.heap.size w w' := by
 have h1 : 1 ≤ n := by omega
 obtain ⟨i0, hi, hz0, hz1, hz2⟩ := info_parts infoPc
 have hI := Lib.hid hi; have hZ0 := Lib.hid hz0; have hZ1 := Lib.hid hz1; have hZ2 := Lib.hid hz2
 clear hi hz0 hz1 hz2
 have hd1 : decide ((2000 : Int) < (s.size : Int)) = false := by simp; omega
 have hd2 : decide ((100 : Int) < (p.size : Int)) = false := by simp; omega
 refine callsIn_of_wp_marks Tryz.func173 rfl trivial ?_ rfl
 simp only [Tryz.ntmps173, List.size_toArray, List.length_cons, List.length_nil, Nat.reduceAdd, Nat.reduceSub, Array.replicate_succ, Array.replicate_zero, List.push_toArray, List.append_toArray, List.nil_append, List.cons_append]
 gi_wp2_with fail
 refine ⟨trivial, (callsIn_wide.2 (fold_any s _ (by omega))).mono ?_⟩
 rintro e w1 ⟨rfl, hb1⟩
 obtain ⟨a, ha⟩ : ∃ a : ByteArray, a = ⟨(foldL s.data.toList).toArray⟩ := ⟨_, rfl⟩
 have haS : a.data.toList = foldL s.data.toList := by rw [ha]
 rw [← ha]
 have hal : a.size ≤ 2000 := by have := foldL_length s.data.toList; rw [ha]; show (foldL s.data.toList).length ≤ 2000; rw [this]; simpa using hs
 have HA := Lib.hid haS
 clear ha haS
 gi_wp2_with fail
 refine ⟨trivial, (callsIn_wide.2 (fold_any p _ (by omega))).mono ?_⟩
 rintro e w2 ⟨rfl, hb2'⟩
 obtain ⟨b, hb⟩ : ∃ b : ByteArray, b = ⟨(foldL p.data.toList).toArray⟩ := ⟨_, rfl⟩
 have hbS : b.data.toList = foldL p.data.toList := by rw [hb]
 rw [← hb]
 have hbl : b.size ≤ 100 := by have := foldL_length p.data.toList; rw [hb]; show (foldL p.data.toList).length ≤ 100; rw [this]; simpa using hp
 have HB := Lib.hid hbS
 clear hb hbS
 have hb2 : Below w.heap.size w w2 := hb1.trans (hb2'.mono hb1.size)
 clear hb1 hb2'
 gi_wp2_with fail
 refine ⟨trivial, (pieces_in (n - 1) b _).mono ?_⟩
 rintro e w3 ⟨rfl, rfl⟩
 gi_wp2_with fail
 clear hd1 hd2
 have bO := (Boxed.new w2 287 (.slice none 0 0)).alloc (.cells #[.string b] 9)
 have bN := Boxed.new (w2.alloc (.cells #[.slice none 0 0] 287)) 9 (.string b)
 rw [World.size_alloc] at bN
 have hB0 : Below w.heap.size w ((w2.alloc (.cells #[.slice none 0 0] 287)).alloc (.cells #[.string b] 9)) := (hb2.alloc hb2.size _).alloc (by have := hb2.size; simp; omega) _
 have hsz0 : ((w2.alloc (.cells #[.slice none 0 0] 287)).alloc (.cells #[.string b] 9)).heap.size = w2.heap.size + 2 := by simp
 obtain ⟨W0, hW0⟩ : ∃ W0, (w2.alloc (.cells #[.slice none 0 0] 287)).alloc (.cells #[.string b] 9) = W0 := ⟨_, rfl⟩
 rw [hW0] at bO bN hB0 hsz0 ⊢
 clear hW0
 have hw2 : w.heap.size ≤ w2.heap.size := hb2.size
 clear hb2
 have HSZ := Lib.hid hsz0
 have hsz1 : w2.heap.size + 2 ≤ W0.heap.size := by omega
 clear hsz0
 refine wpIn_rangeFunc_ownH rfl h1 (gf := 227) (lb := #[.pointer (some ⟨w2.heap.size + 1, 0, none⟩)]) rfl trivial (enters_of Tryz.func227 (by kernel_rfl) rfl)
  (pieces_stops (n - 1) (by omega) (w2.heap.size + 1) b (by omega) W0 (by omega) bN.cell) KeepsCell.trans (fun W l o o' hl h h2 h3 => KeepsCell.put (w := W0) (by omega) W l o o' hl h h2 h3) (Below.refl _ _) (fun _ => rfl)
  (fun pre W => Coll w.heap.size w2.heap.size b pre W ∧ Below w.heap.size w W)
  (fun _ _ _ => False)
  ?hI
  (fun _ _ _ _ _ hs _ _ => hs)
  ⟨⟨⟨_, bO, World.ownsRow_nil _ _ _ _⟩, bN⟩, hB0⟩
  (fun x a' W => ∃ Bx, w2.heap.size + 1 < Bx ∧ Boxed3 W Bx x ∧ a' = { tmps := #[.int .i64 3, .string s, .string p, undef, undef, undef, .bool false, .int .i64 0, .string a, .string b, .pointer (some ⟨w2.heap.size, 0, none⟩), .pointer (some ⟨Bx, 0, none⟩), .int .i64 3, .bool false, .bool false, .int .i64 3, .bool false, .bool false, .string s, .int .i64 s.size, .bool false, .bool false, .string p, .int .i64 p.size, .bool false, .bool false, .string s, .string a, .string p, .string b, .int .i64 3, .bool false, .bool false, undef, undef, undef, .bool false, .bool false, undef, undef, undef, .string b, .func (.func 227) #[] #[.pointer (some ⟨w2.heap.size + 1, 0, none⟩)], pcVal x, undef, undef, undef, undef, undef, undef, undef], defers := [] })
  ?hAx ?assign ?body ?done ?stop
 case hI => exact OwnFrom.and (Own.from (coll_own _ _ _) _) (ownFrom_below (Nat.le_refl _) (by omega))
 case hAx =>
  rintro x a' s A B row ⟨Bx, h1, h2, h3⟩ hg hr
  exact ⟨Bx, h1, boxed3_kept h2 hg (fun r e => (hr r e).2), h3⟩
 case assign =>
  rintro l pre x W K ⟨⟨⟨v, hv, hrow⟩, hbs⟩, hB⟩ hK
  simp only [pcVal]
  have hbl := hbs.lt
  have hKC : KeepsCell (w2.heap.size + 1) W (W.alloc (.cells #[.int .u8 (x.c.toNat : Int), .bool x.one, .bool x.many] 291)) := KeepsCell.of_grown (World.grownBy_alloc _ _ _) hbs.cell
  gi_wp2
  exact hK _ _ ((KeepsOthers.alloc _ _).from _) hKC ⟨⟨⟨v, hv.alloc _, hrow.alloc _⟩, hbs.alloc _⟩, hB.alloc hB.size _⟩ ⟨W.heap.size, hbl, World.alloc_heap_new W _, rfl⟩
 case body =>
  rintro l pre x a' W hl hrr ⟨⟨⟨v, hv, hrow⟩, hbs⟩, hB⟩ ⟨Bx, hBx, hx3, rfl⟩ hlt
  have hpl : pre.length < 100 := Nat.lt_of_lt_of_le hlt (Nat.le_trans (pcs_length _) (by simpa using hbl))
  have hc := hv.cell
  have hxc0 := hx3.c0
  have hxc1 := hx3.c1
  have hxc2 := hx3.c2
  simp only [pcVal]
  gi_wp2_with (gi_at_builtin; refine wpListIn_append_own _ rfl _ _ 287 rfl w.heap.size 291 i0 (.agg #[.int .u8 0, .bool false, .bool false]) 3 3 Tryz.underlying287 hI.out hZ0.out hZ1.out hZ2.out rfl (by decide) _ _ _ rfl (hrow.alloc _) ⟨W.heap.size, 0, none⟩ 1 1 [.int .u8 (x.c.toNat : Int), .bool x.one, .bool x.many] rfl rfl (cell_three_new _ _ _ _ _) (by simp [Value.oneCell']) (by unfold maxLen; omega) (by omega) (by have := hB.size; simp; omega) ?_; intro v' w1 hown' hgrow _; obtain ⟨g', cap', rfl⟩ := ownsRow_succ hown'; obtain ⟨hv1, hv2, hr2, hk2, hb2⟩ := hv.appended (by decide) hrow hB.size hw2 hown' hgrow; have hc1 := hv1.cell; have hf1 := hv1.frozen)
  have hbs2 : Boxed (w1.setCell ⟨w2.heap.size, 0, none⟩ (.slice (some ⟨g', 0, none⟩) (pre.length + 1) cap')) (w2.heap.size + 1) 9 (.string b) :=
   ((hbs.alloc _).kept hgrow (hbs.not_row (by decide) hrow)).kept (grownBy_setCell' _ _ _) (by simp)
  exact ⟨hk2.from _, ⟨hbs2.cell.trans hbs.cell.symm, hb2.size⟩, ⟨⟨_, hv2, by rw [List.length_append, pcells_append]; exact hr2⟩, hbs2⟩, hB.trans hb2⟩
 case done =>
  rintro D ys W hD rfl ⟨⟨⟨v, hv, hrow⟩, hbs⟩, hB⟩ hK
  have hc := hv.cell
  have hpl : (pcs b.data.toList).length ≤ 100 := Nat.le_trans (pcs_length _) (by simpa using hbl)
  gi_wp2_with fail
  refine ⟨trivial, (callsIn_wide.2 (matches_own hrow a (by omega) (by omega))).mono ?_⟩
  rintro e w4 ⟨rfl, m, rfl⟩
  gi_wp2
  have hK2 : (W.drewN m).heap[D]? = some (.deferred (some [])) := hK
  refine ⟨by simp, .inl ⟨_, _, rfl, run_takeDeferred hK2, ?_⟩⟩
  refine ⟨_, results_tmp2 rfl _ _ _, ?_, (below_drewN hB m).trans (belowK_b (w := w) (Nat.le_refl _) (W.drewN m) D _ _ (by omega) hK2 rfl rfl)⟩
  rw [← HA.out, ← HB.out]; rfl
 case stop =>
  rintro D c pre W _ _ h _
  exact h.elim
theorem match3_any (s p : ByteArray) (w : World) (hs : s.size ≤ 2000) (hp : p.size ≤ 100) :
    Calls Tryz.prog 173 #[.int .i64 3, .string s, .string p] w fun e w' => e = .returned (.tuple #[.bool (mt (pcs (foldL p.data.toList)) (foldL s.data.toList)), .int .i64 0]) ∧ Below w.heap.size w w' :=
 callsIn_wide.1 (match3_in 5 (Nat.le_refl _) s p w hs hp)
theorem match1_any (s p : ByteArray) (w : World) (hs : s.size ≤ 2000) (hp : p.size ≤ 100) :
    Calls Tryz.prog 173 #[.int .i64 1, .string s, .string p] w fun e w' => e = .returned (.tuple #[.bool (foldL s.data.toList == foldL p.data.toList), .int .i64 0]) ∧ Below w.heap.size w w' := by
 have hd1 : decide ((2000 : Int) < (s.size : Int)) = false := by simp; omega
 have hd2 : decide ((100 : Int) < (p.size : Int)) = false := by simp; omega
 go_enter Tryz.func173, Tryz.ntmps173
 go_wp2_with fail
 refine (fold_any s _ (by omega)).mono ?_
 rintro e w1 ⟨rfl, hb1⟩
 go_wp2_with fail
 refine (fold_any p _ (by omega)).mono ?_
 rintro e w2 ⟨rfl, hb2⟩
 go_wp2
 go_ret2
 exact ⟨rfl, hb1.trans (hb2.mono hb1.size)⟩
theorem match2_any (s p : ByteArray) (m : Int) (w : World) (hm : w.cell? ⟨6, 0, none⟩ = some (.int .i64 m)) (hs : s.size ≤ 2000) (hp : p.size ≤ 100) :
    Calls Tryz.prog 173 #[.int .i64 2, .string s, .string p] w fun e w' => e = .returned (.tuple #[.bool (Lib.contains (foldL s.data.toList) (foldL p.data.toList)), .int .i64 0]) ∧ Below w.heap.size w w' := by
 have hd1 : decide ((2000 : Int) < (s.size : Int)) = false := by simp; omega
 have hd2 : decide ((100 : Int) < (p.size : Int)) = false := by simp; omega
 have hg : 6 < w.heap.size := World.block_lt_of_cell? w _ hm
 go_enter Tryz.func173, Tryz.ntmps173
 go_wp2_with fail
 refine (fold_any s _ (by omega)).mono ?_
 rintro e w1 ⟨rfl, hb1⟩
 go_wp2_with fail
 refine (fold_any p _ (by omega)).mono ?_
 rintro e w2 ⟨rfl, hb2⟩
 have hb : Below w.heap.size w w2 := hb1.trans (hb2.mono hb1.size)
 have hm2 := (hb.cell (p := ⟨6, 0, none⟩) hg).trans hm
 have hsz : (⟨(foldL s.data.toList).toArray⟩ : ByteArray).size < 4294967281 := by show (foldL s.data.toList).length < _; rw [foldL_length]; simp; omega
 go_wp2_with fail
 refine (Tryz.strings_Contains _ _ m _ hsz hm2).mono ?_
 rintro e w3 ⟨rfl, rfl⟩
 go_wp2
 go_ret2
 exact ⟨rfl, hb⟩
end Go.Proofs.YtpfbkdbblpppdaaGreatDoor
