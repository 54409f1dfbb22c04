/- On the way. -/
import Derived.Test.YtpfbkdbblpppdaaGreatDoorEJgB
import Derived.Test.YtpfbkdbblpppdaaGreatDoorEKtA
import Derived.Test.YtpfbkdbblpppdaaGreatDoorEOpen
import Derived.Lib.IndexMore
import Derived.Lib.SlTrimSet
import Derived.Lib.IndexBytes
import Derived.Lib.Builder
import Derived.Lib.AppendStr
import Derived.Laws.Externs
import Derived.BigRegion
import Derived.Deep.AppendLies
import Derived.Lib.UnsafeStr
import Derived.Shelf.Strings.SlTrimAscii
import Derived.Deep.RegionLaw
import Derived.Deep.DeepCutAuto
import Derived.Deep.CutBlock
import Derived.BigQuiet
import Derived.Deep.Slices
import Derived.Deep.Fields
import Derived.ChangeSame
import Derived.Deep.RegionHeld3
set_option linter.unusedVariables false
set_option linter.unusedSimpArgs false
set_option maxHeartbeats 8000000
set_option maxRecDepth 100000
namespace Go.Proofs.YtpfbkdbblpppdaaGreatDoor
open Go
def sepL (sep : List UInt8) : List UInt8 → Option (List UInt8 × List UInt8)
 | [] => none
 | c :: l => if sep.isPrefixOf (c :: l) then some ([], (c :: l).drop sep.length) else (sepL sep l).map fun p => (c :: p.1, p.2)
theorem sep_index (sep : List UInt8) (hne : sep ≠ []) : ∀ l, (sepL sep l = none ∧ Lib.index l sep = -1) ∨ (∃ i : Nat, Lib.index l sep = i ∧ sepL sep l = some (l.take i, l.drop (i + sep.length)))
 | [] => by
  left
  refine ⟨rfl, ?_⟩
  cases sep with
  | nil => exact absurd rfl hne
  | cons a t => rfl
 | c :: l => by
  by_cases hp : sep.isPrefixOf (c :: l) = true
  ·right
   refine ⟨0, ?_, ?_⟩
   ·unfold Lib.index; rw [if_pos hp]; rfl
   ·rw [sepL, if_pos hp, Nat.zero_add]; rfl
  ·rcases sep_index sep hne l with ⟨h1, h2⟩ | ⟨i, h1, h2⟩
   ·left
    refine ⟨by rw [sepL, if_neg hp, h1]; rfl, ?_⟩
    unfold Lib.index; rw [if_neg hp, h2]; rfl
   ·right
    refine ⟨i + 1, ?_, ?_⟩
    ·unfold Lib.index
     rw [if_neg hp, h1, if_neg (by rw [beq_iff_eq]; omega)]
     omega
    ·rw [sepL, if_neg hp, h2, show i + 1 + sep.length = (i + sep.length) + 1 by omega]
     rfl
theorem cut_sep (sep l : List UInt8) (hne : sep ≠ []) : Lib.cut l sep = match sepL sep l with | some p => (p.1, p.2, true) | none => (l, [], false) := by
 unfold Lib.cut
 rcases sep_index sep hne l with ⟨h1, h2⟩ | ⟨i, h1, h2⟩
 ·rw [h1, h2, if_neg (by omega)]
 ·rw [h1, h2, if_pos (by omega)]
  simp
theorem cut_some {sep l x r : List UInt8} (hne : sep ≠ []) (h : sepL sep l = some (x, r)) : Lib.cut l sep = (x, r, true) := by rw [cut_sep sep l hne, h]
theorem cut_none {sep l : List UInt8} (hne : sep ≠ []) (h : sepL sep l = none) : Lib.cut l sep = (l, [], false) := by rw [cut_sep sep l hne, h]
theorem contains_sep (sep l : List UInt8) (hne : sep ≠ []) : Lib.contains l sep = (sepL sep l).isSome := by
 unfold Lib.contains
 rcases sep_index sep hne l with ⟨h1, h2⟩ | ⟨i, h1, h2⟩
 ·rw [h1, h2]; rfl
 ·rw [h1, h2]; simp
theorem sep_join {sep : List UInt8} : ∀ {l x r : List UInt8}, sepL sep l = some (x, r) → l = x ++ (sep ++ r)
 | [], x, r, h => by cases h
 | c :: l, x, r, h => by
  by_cases hp : sep.isPrefixOf (c :: l) = true
  ·rw [sepL, if_pos hp] at h
   obtain ⟨rfl, rfl⟩ := Prod.mk.inj (Option.some.inj h)
   have := List.prefix_iff_eq_append.1 (List.isPrefixOf_iff_prefix.1 hp)
   exact this.symm
  ·rw [sepL, if_neg hp] at h
   cases hs : sepL sep l with
   | none => rw [hs] at h; cases h
   | some p =>
    obtain ⟨x', r'⟩ := p
    rw [hs] at h
    obtain ⟨rfl, rfl⟩ := Prod.mk.inj (Option.some.inj h)
    rw [sep_join hs]; rfl
theorem sep_len {sep l x r : List UInt8} (h : sepL sep l = some (x, r)) : l.length = x.length + sep.length + r.length := by
 rw [sep_join h]; simp only [List.length_append]; omega
theorem sep_crlf : ∀ (x r : List UInt8), sepL [13, 10] x = none → sepL [13, 10] (x ++ 13 :: 10 :: r) = some (x, r)
 | [], r, _ => rfl
 | c :: x, r, h => by
  by_cases hp : [13, 10].isPrefixOf (c :: x) = true
  ·rw [sepL, if_pos hp] at h; cases h
  ·have h2 : sepL [13, 10] x = none := by
    rw [sepL, if_neg hp] at h
    cases hs : sepL [13, 10] x with
    | none => rfl
    | some p => rw [hs] at h; cases h
   have hp2 : ¬ [13, 10].isPrefixOf (c :: (x ++ 13 :: 10 :: r)) = true := by
    intro h3
    cases x with
    | nil => simp [List.isPrefixOf] at h3
    | cons d x =>
     apply hp
     simpa [List.isPrefixOf] using h3
   show sepL [13, 10] (c :: (x ++ 13 :: 10 :: r)) = _
   rw [sepL, if_neg hp2, sep_crlf x r h2]
   rfl
theorem sep_byte (c : UInt8) : ∀ (x r : List UInt8), c ∉ x → sepL [c] (x ++ c :: r) = some (x, r)
 | [], r, _ => by
  show sepL [c] (c :: r) = _
  rw [sepL, if_pos (by simp [List.isPrefixOf])]; rfl
 | d :: x, r, h => by
  have hd : ¬ [c].isPrefixOf (d :: (x ++ c :: r)) = true := by
   simp [List.isPrefixOf]
   intro e; exact h (by rw [e]; exact List.mem_cons_self ..)
  show sepL [c] (d :: (x ++ c :: r)) = _
  rw [sepL, if_neg hd, sep_byte c x r (fun e => h (List.mem_cons_of_mem _ e))]
  rfl
def nameOK (l : List UInt8) : Bool := l.all (fun c => !(decide (c < 33) || decide (126 < c) || c == 58)) && !l.isEmpty
def isBlank (c : UInt8) : Bool := c == 32 || c == 9
def trimV (l : List UInt8) : List UInt8 := Lib.trimS l [32, 9]
abbrev Fld := List UInt8 × List UInt8
def updV (g : List UInt8 → List UInt8) : Nat → List Fld → List Fld
 | _, [] => []
 | 0, f :: l => (f.1, g f.2) :: l
 | i + 1, f :: l => f :: updV g i l
theorem updV_length (g : List UInt8 → List UInt8) : ∀ (i : Nat) (l : List Fld), (updV g i l).length = l.length
 | _, [] => by unfold updV; rfl
 | 0, f :: l => rfl
 | i + 1, f :: l => by show (updV g i l).length + 1 = l.length + 1; rw [updV_length g i l]
theorem upd_mem (g : List UInt8 → List UInt8) : ∀ (i : Nat) (l : List Fld) (f : Fld), f ∈ updV g i l → f ∈ l ∨ ∃ f0 ∈ l, f.2 = g f0.2
 | _, [], f, h => by unfold updV at h; exact .inl h
 | 0, a :: l, f, h => by
  rcases List.mem_cons.1 h with rfl | h
  ·exact .inr ⟨a, List.mem_cons_self .., rfl⟩
  ·exact .inl (List.mem_cons_of_mem _ h)
 | i + 1, a :: l, f, h => by
  rcases List.mem_cons.1 h with rfl | h
  ·exact .inl (List.mem_cons_self ..)
  ·rcases upd_mem g i l f h with h | ⟨f0, h, h2⟩
   ·exact .inl (List.mem_cons_of_mem _ h)
   ·exact .inr ⟨f0, List.mem_cons_of_mem _ h, h2⟩
def trimF (f : Fld) : Fld := (f.1, trimV f.2)
theorem upd_trim : ∀ (i : Nat) (l : List Fld), i < l.length → updV trimV i ((l.take i).map trimF ++ l.drop i) = (l.take (i + 1)).map trimF ++ l.drop (i + 1)
 | _, [], h => absurd h (Nat.not_lt_zero _)
 | 0, f :: l, _ => rfl
 | i + 1, f :: l, h => by
  show trimF f :: updV trimV i ((l.take i).map trimF ++ l.drop i) = trimF f :: ((l.take (i + 1)).map trimF ++ l.drop (i + 1))
  rw [upd_trim i l (Nat.lt_of_succ_lt_succ h)]
abbrev Parsed := (List Fld × List UInt8) × Nat × Nat
def parseP : Nat → Nat → List Fld → List UInt8 → Parsed
 | 0, _, _, _ => (([], []), 0, 4)
 | k + 1, i, fs, s =>
  match sepL [13, 10] s with
  | none => (([], []), i, 4)
  | some (line, rest) =>
   if line.isEmpty then ((fs.map trimF, rest), 0, 0)
   else if isBlank (line.headD 0) && decide (0 < fs.length) then parseP k (i + 1) (updV (· ++ line) (fs.length - 1) fs) rest
   else match sepL [58] line with
    | none => (([], []), i, 3)
    | some (n, v) => if nameOK n then (if fs.length = 30 then (([], []), i, 5) else parseP k (i + 1) (fs ++ [(n, v)]) rest) else (([], []), i, 3)
theorem parseP_fuel : ∀ (k k' i : Nat) (fs : List Fld) (s : List UInt8), s.length < k → s.length < k' → parseP k i fs s = parseP k' i fs s
 | 0, _, _, _, s, h, _ => absurd h (Nat.not_lt_zero _)
 | _ + 1, 0, _, _, s, _, h => absurd h (Nat.not_lt_zero _)
 | k + 1, k' + 1, i, fs, s, h, h' => by
  rw [parseP, parseP]
  cases hs : sepL [13, 10] s with
  | none => rfl
  | some p =>
   obtain ⟨line, rest⟩ := p
   have hl := sep_len hs
   have h2 : ([13, 10] : List UInt8).length = 2 := rfl
   rw [h2] at hl
   show (if line.isEmpty then _ else _) = (if line.isEmpty then _ else _)
   split
   ·rfl
   ·split
    ·exact parseP_fuel k k' _ _ rest (by omega) (by omega)
    ·cases sepL [58] line with
     | none => rfl
     | some nv =>
      obtain ⟨n, v⟩ := nv
      show (if nameOK n then _ else _) = (if nameOK n then _ else _)
      split
      ·split
       ·rfl
       ·exact parseP_fuel k k' _ _ rest (by omega) (by omega)
      ·rfl
def parseL (i : Nat) (fs : List Fld) (s : List UInt8) : Parsed := parseP (s.length + 1) i fs s
theorem parse_short {i : Nat} {fs : List Fld} {s : List UInt8} (h : sepL [13, 10] s = none) : parseL i fs s = (([], []), i, 4) := by
 unfold parseL; rw [parseP, h]
theorem parse_end {i : Nat} {fs : List Fld} {s rest : List UInt8} (h : sepL [13, 10] s = some ([], rest)) : parseL i fs s = ((fs.map trimF, rest), 0, 0) := by
 unfold parseL; rw [parseP, h]; rfl
theorem parse_fold {i : Nat} {fs : List Fld} {s line rest : List UInt8} (h : sepL [13, 10] s = some (line, rest)) (h1 : line.isEmpty = false) (h2 : (isBlank (line.headD 0) && decide (0 < fs.length)) = true) :
    parseL i fs s = parseL (i + 1) (updV (· ++ line) (fs.length - 1) fs) rest := by
 have hl := sep_len h
 have h3 : ([13, 10] : List UInt8).length = 2 := rfl
 rw [h3] at hl
 unfold parseL; rw [parseP, h]
 show (if line.isEmpty then _ else if _ then _ else _) = _
 rw [h1, h2]
 exact parseP_fuel _ _ _ _ rest (by omega) (by omega)
theorem parse_nocolon {i : Nat} {fs : List Fld} {s line rest : List UInt8} (h : sepL [13, 10] s = some (line, rest)) (h1 : line.isEmpty = false) (h2 : (isBlank (line.headD 0) && decide (0 < fs.length)) = false) (h3 : sepL [58] line = none) :
    parseL i fs s = (([], []), i, 3) := by
 unfold parseL; rw [parseP, h]
 show (if line.isEmpty then _ else if _ then _ else _) = _
 rw [h1, h2, h3]
 rfl
theorem parse_bad {i : Nat} {fs : List Fld} {s line rest n v : List UInt8} (h : sepL [13, 10] s = some (line, rest)) (h1 : line.isEmpty = false) (h2 : (isBlank (line.headD 0) && decide (0 < fs.length)) = false) (h3 : sepL [58] line = some (n, v)) (h4 : nameOK n = false) :
    parseL i fs s = (([], []), i, 3) := by
 unfold parseL; rw [parseP, h]
 show (if line.isEmpty then _ else if _ then _ else _) = _
 rw [h1, h2, h3]
 show (if nameOK n then _ else _) = _
 rw [h4]
 rfl
theorem parse_full {i : Nat} {fs : List Fld} {s line rest n v : List UInt8} (h : sepL [13, 10] s = some (line, rest)) (h1 : line.isEmpty = false) (h2 : (isBlank (line.headD 0) && decide (0 < fs.length)) = false) (h3 : sepL [58] line = some (n, v)) (h4 : nameOK n = true) (h5 : fs.length = 30) :
    parseL i fs s = (([], []), i, 5) := by
 unfold parseL; rw [parseP, h]
 show (if line.isEmpty then _ else if _ then _ else _) = _
 rw [h1, h2, h3]
 show (if nameOK n then (if fs.length = 30 then _ else _) else _) = _
 rw [h4, if_pos h5]
 rfl
theorem parse_field {i : Nat} {fs : List Fld} {s line rest n v : List UInt8} (h : sepL [13, 10] s = some (line, rest)) (h1 : line.isEmpty = false) (h2 : (isBlank (line.headD 0) && decide (0 < fs.length)) = false) (h3 : sepL [58] line = some (n, v)) (h4 : nameOK n = true) (h5 : fs.length ≠ 30) :
    parseL i fs s = parseL (i + 1) (fs ++ [(n, v)]) rest := by
 have hl := sep_len h
 have h6 : ([13, 10] : List UInt8).length = 2 := rfl
 rw [h6] at hl
 unfold parseL; rw [parseP, h]
 show (if line.isEmpty then _ else if _ then _ else _) = _
 rw [h1, h2, h3]
 show (if nameOK n then (if fs.length = 30 then _ else _) else _) = _
 rw [h4, if_neg h5]
 exact parseP_fuel _ _ _ _ rest (by omega) (by omega)
def fcells (l : List Fld) : List Value := l.flatMap fun f => [.string ⟨f.1.toArray⟩, .string ⟨f.2.toArray⟩]
theorem fcells_cons (f : Fld) (l : List Fld) : fcells (f :: l) = .string ⟨f.1.toArray⟩ :: .string ⟨f.2.toArray⟩ :: fcells l := rfl
theorem fcells_length (l : List Fld) : (fcells l).length = l.length * 2 := by
 induction l with
 | nil => rfl
 | cons a l ih => rw [fcells_cons]; simp only [List.length_cons]; omega
theorem fcells_snoc (l : List Fld) (a : Fld) : fcells (l ++ [a]) = fcells l ++ [.string ⟨a.1.toArray⟩, .string ⟨a.2.toArray⟩] := by simp [fcells]
theorem fcells_at : ∀ (l : List Fld) (i : Nat) (f : Fld), l[i]? = some f → (fcells l)[i * 2]? = some (.string ⟨f.1.toArray⟩) ∧ (fcells l)[i * 2 + 1]? = some (.string ⟨f.2.toArray⟩)
 | [], i, f, h => by simp at h
 | a :: l, 0, f, h => by obtain rfl : a = f := by simpa using h
                         exact ⟨rfl, rfl⟩
 | a :: l, i + 1, f, h => by
  have := fcells_at l i f (by simpa using h)
  rw [fcells_cons, show (i + 1) * 2 = i * 2 + 1 + 1 by omega]
  exact this
theorem fcells_upd (g : List UInt8 → List UInt8) : ∀ (i : Nat) (l : List Fld) (f : Fld), l[i]? = some f → fcells (updV g i l) = (fcells l).set (i * 2 + 1) (.string ⟨(g f.2).toArray⟩)
 | i, [], f, h => by simp at h
 | 0, a :: l, f, h => by obtain rfl : a = f := by simpa using h
                         rfl
 | i + 1, a :: l, f, h => by
  have := fcells_upd g i l f (by simpa using h)
  show fcells (a :: updV g i l) = _
  rw [fcells_cons, fcells_cons, this, show (i + 1) * 2 + 1 = (i * 2 + 1) + 1 + 1 by omega]
  rfl
end Go.Proofs.YtpfbkdbblpppdaaGreatDoor
namespace Go.Proofs.YtpfbkdbblpppdaaGreatDoor
open Go.RowKit
def nameC (c : UInt8) : Bool := !(decide (c < 33) || decide (126 < c) || c == 58)
theorem nameOK_eq (l : List UInt8) : nameOK l = (l.all nameC && !l.isEmpty) := rfl
theorem take_snoc_all (f : UInt8 → Bool) (l : List UInt8) (j : Nat) (h : j < l.length) (h1 : (l.take j).all f = true) (h2 : f l[j] = true) : (l.take (j + 1)).all f = true := by
 rw [List.take_succ_eq_append_getElem h, List.all_append, h1]; simp [h2]
theorem hit_false (f : UInt8 → Bool) (l : List UInt8) (j : Nat) (h : j < l.length) (h2 : f l[j] = false) : l.all f = false := by
 cases hx : l.all f with
 | false => rfl
 | true => rw [List.all_eq_true.1 hx _ (List.getElem_mem h)] at h2; exact h2
theorem name_any (s : ByteArray) (w : World) (hs : s.size ≤ 1000000) :
    Calls Tryz.prog 113 #[.string s] w fun e w' => e = .returned (.bool (nameOK s.data.toList)) ∧ w' = w := by
 have hsl : s.data.toList.length = s.size := by simp
 obtain ⟨l, hl⟩ : ∃ l, l = s.data.toList := ⟨_, rfl⟩
 rw [← hl] at hsl ⊢
 have HK : Hid (∀ (k : Nat) (h : k < s.size), (nameC s[k] = false → nameOK l = false) ∧ (nameC s[k] = true → (l.take k).all nameC = true → (l.take (k + 1)).all nameC = true)) := by
  subst hl
  intro k hk
  have hk2 : k < s.data.toList.length := by omega
  exact ⟨fun h => by rw [nameOK_eq, hit_false nameC s.data.toList k hk2 h]; rfl, fun h h2 => take_snoc_all nameC s.data.toList k hk2 h2 h⟩
 have HS := Lib.hid hsl
 clear hl hsl
 go_enter Tryz.func113, Tryz.ntmps113
 go_wp2_with fail
 go_loop [3, 6] (fun _ i => ∃ k : Nat, k ≤ s.size ∧ i = .int .i64 k ∧ Hid ((l.take k).all nameC = true)) (fun _ i => s.size - (intOf i).toNat)
 case atStart => exact ⟨0, Nat.zero_le _, rfl, rfl⟩
 case round =>
  obtain ⟨k, hk, rfl, hok⟩ := hrel
  by_cases hlt : k < s.size
  ·obtain ⟨c, hc⟩ : ∃ c : UInt8, s[k] = c := ⟨_, rfl⟩
   have HK1 := HK.out k hlt
   rw [hc] at HK1
   have HX := Lib.hid HK1
   clear HK1
   by_cases h1 : c.toNat < 33
   ·have e1 : (s[k].toNat : Int) < 33 := by rw [hc]; omega
    have hn : Hid (nameOK l = false) := HX.out.1 (by unfold nameC; rw [show decide (c < 33) = true by simpa [UInt8.lt_iff_toNat_lt] using h1]; rfl)
    clear hc HX hok
    go_wp2_with fail
    go_ret
    exact ⟨by rw [hn.out]; rfl, rfl⟩
   ·have e1 : decide ((s[k].toNat : Int) < 33) = false := decide_eq_false (by rw [hc]; omega)
    by_cases h2 : 126 < c.toNat
    ·have e2 : (126 : Int) < (s[k].toNat : Int) := by rw [hc]; omega
     have hn : Hid (nameOK l = false) := HX.out.1 (by unfold nameC; rw [show decide (126 < c) = true by simpa [UInt8.lt_iff_toNat_lt] using h2]; simp)
     clear hc HX hok
     go_wp2_with fail
     go_ret
     exact ⟨by rw [hn.out]; rfl, rfl⟩
    ·have e2 : decide ((126 : Int) < (s[k].toNat : Int)) = false := decide_eq_false (by rw [hc]; omega)
     by_cases h3 : c = 58
     ·have e3 : ((s[k].toNat : Int) == 58) = true := by rw [hc, h3]; rfl
      have hn : Hid (nameOK l = false) := HX.out.1 (by unfold nameC; rw [h3]; rfl)
      clear hc HX hok
      go_wp2_with fail
      go_ret
      exact ⟨by rw [hn.out]; rfl, rfl⟩
     ·have e3 : ((s[k].toNat : Int) == 58) = false := beq_eq_false_iff_ne.2 (fun e => h3 (UInt8.toNat_inj.1 (by rw [← hc]; exact Int.ofNat_inj.1 e)))
      have hn : Hid ((l.take (k + 1)).all nameC = true) := HX.out.2 (by
       unfold nameC
       rw [show decide (c < 33) = false by simpa [UInt8.lt_iff_toNat_lt] using h1, show decide (126 < c) = false by simpa [UInt8.lt_iff_toNat_lt] using h2]
       simpa using h3) hok.out
      clear hc HX hok
      go_wp2_with fail
      go_round
      case rel => exact ⟨k + 1, by omega, by go_num, hn⟩
      case measure => simp [intOf]; omega
  ·obtain rfl : k = s.size := by omega
   have hall : Hid (l.all nameC = true) := by
    have := hok.out
    rw [← HS.out, List.take_length] at this
    exact this
   clear hok
   have hgt : Hid (nameOK l = decide (0 < s.size)) := by
    unfold Hid
    rw [nameOK_eq, hall.out, ← HS.out]
    cases l with
    | nil => rfl
    | cons a b => simp
   go_wp2_with fail
   go_ret
   exact ⟨by rw [hgt.out]; rfl, rfl⟩
theorem infoBuilder : (Tryz.prog.info? 149).map (·.size) = some 2 := by kernel_rfl
theorem liesBuilder : liesAt Tryz.prog Tryz.prog.depth 149 (2 / Tryz.prog.cellsOf 149) 0 149 1 = true := by kernel_rfl
theorem copyCheck_used (b : Nat) (w : World) (h0 : w.cell? ⟨b, 0, none⟩ = some (.pointer (some ⟨b, 0, none⟩))) :
    Calls Tryz.prog 106 #[.pointer (some ⟨b, 0, none⟩)] w fun e w' => e = .returned (.tuple #[]) ∧ w' = w := by
 obtain ⟨j, hj, _⟩ := Option.map_eq_some_iff.1 infoBuilder
 go_enter Tryz.func106, Tryz.ntmps106
 go_wp2
 rw [Lib.run_neq_ptr_same w _ Tryz.underlying147 hj]
 go_wp2
 go_end0
 exact ⟨rfl, rfl⟩
theorem copyCheck_fresh (b : Nat) (w : World) (h0 : w.cell? ⟨b, 0, none⟩ = some (.pointer none)) (hsh : w.shape? b = some (149, 2)) (hfz : w.frozen? ⟨b, 0, none⟩ = false) :
    Calls Tryz.prog 106 #[.pointer (some ⟨b, 0, none⟩)] w fun e w' => e = .returned (.tuple #[]) ∧ w' = w.setCell ⟨b, 0, none⟩ (.pointer (some ⟨b, 0, none⟩)) := by
 obtain ⟨j, hj, hjs⟩ := Option.map_eq_some_iff.1 infoBuilder
 go_enter Tryz.func106, Tryz.ntmps106
 go_wp2
 rw [Lib.run_to_unsafe w ⟨b, 0, none⟩ Tryz.underlying147 Tryz.underlying243 hj (by rw [hjs]; decide) hsh (Nat.zero_lt_succ 1)]
 simp only [Result.andThen]
 rw [Oper.upon_value]
 go_wp2
 rw [run_callFunc_extern Tryz.func147 (by kernel_rfl) (by kernel_rfl) (by kernel_rfl) (e := Extern.AbiNoEscape.same) (by kernel_rfl)]
 rw [Lib.run_noEscape]
 simp only [Result.andThen]
 rw [Oper.upon_value]
 go_wp2
 rw [Lib.run_from_unsafe w ⟨b, 0, none⟩ Tryz.underlying243 Tryz.underlying147 hj hsh liesBuilder]
 simp only [Result.andThen]
 rw [Oper.upon_value]
 go_wp2
 go_end0
 exact ⟨rfl, rfl⟩
theorem copyCheck_any (B b : Nat) (bs : List Value) (w : World) (h : Lib.IsBuilder 149 5 B b bs w) :
    Calls Tryz.prog 106 #[.pointer (some ⟨b, 0, none⟩)] w fun e w' => e = .returned (.tuple #[]) ∧ (Lib.BuilderAt 149 5 B b (.pointer (some ⟨b, 0, none⟩)) bs w' ∧ Below B w w') := by
 rcases h with h | h
 ·refine (copyCheck_fresh b w h.cell0 h.shape h.frozen0).mono ?_
  rintro e w' ⟨rfl, rfl⟩
  exact ⟨rfl, h.used _, (Below.refl B w).setCell (p := ⟨b, 0, none⟩) h.1 _⟩
 ·refine (copyCheck_used b w h.cell0).mono ?_
  rintro e w' ⟨rfl, rfl⟩
  exact ⟨rfl, h, Below.refl B _⟩
theorem writeString_any (B b : Nat) (bs : List Value) (s : ByteArray) (w : World) (h : Lib.IsBuilder 149 5 B b bs w) (hlen : bs.length + s.size ≤ 140737488355328) (hBw : B ≤ w.heap.size) :
    Calls Tryz.prog 61 #[.pointer (some ⟨b, 0, none⟩), .string s] w fun e w' => e = .returned (.tuple #[.int .i64 s.size, .nilIface]) ∧ (Lib.BuilderAt 149 5 B b (.pointer (some ⟨b, 0, none⟩)) (bs ++ Lib.strCells s) w' ∧ Below B w w') := by
 obtain ⟨i0, hi, hz0, hz1, hz2⟩ := info_parts infoU8
 go_enter Tryz.func61, Tryz.ntmps61
 go_wp2_with fail
 refine (copyCheck_any B b bs _ h).mono ?_
 rintro e w1 ⟨rfl, h1, hb1⟩
 obtain ⟨hB, v, hbk, hown, hne⟩ := h1
 have c0 : w1.cell? ⟨b, 0, none⟩ = some (.pointer (some ⟨b, 0, none⟩)) := by rw [Lib.cell_of_heap hbk]; rfl
 have c1 : w1.cell? ⟨b, 1, none⟩ = some v := by rw [Lib.cell_of_heap hbk]; rfl
 go_wp2_with (at_builtin; refine Lib.wpList_append_own_string _ rfl _ _ 134 9 rfl B 5 i0 Tryz.underlying134 Tryz.underlying9 hi hz0 hz1 hz2 _ _ _ rfl hown s rfl ?c3 ?c4 ?c5 ?_)
 case c3 => unfold maxLen; omega
 case c4 => omega
 case c5 => have := hb1.size; omega
 intro v' w2 hown' hgrow _
 have hlt : b < w1.heap.size := by
  rcases Nat.lt_or_ge b w1.heap.size with h' | h'
  ·exact h'
  ·simp [Array.getElem?_eq_none h'] at hbk
 have hb2 : w2.heap[b]? = some (.cells #[.pointer (some ⟨b, 0, none⟩), v] 149 (0, 0)) := by
  rw [hgrow.block b hlt (fun e => hne e.symm)]
  exact hbk
 have d0 : w2.cell? ⟨b, 0, none⟩ = some (.pointer (some ⟨b, 0, none⟩)) := by rw [Lib.cell_of_heap hb2]; rfl
 have d1 : w2.cell? ⟨b, 1, none⟩ = some v := by rw [Lib.cell_of_heap hb2]; rfl
 have f1 : w2.frozen? ⟨b, 1, none⟩ = false := Lib.frozen_of_heap hb2 1
 obtain ⟨ao, n', cap, rfl⟩ : ∃ ao n' cap, v' = .slice ao n' cap := by
  rcases hown'.2 with ⟨hv, _⟩ | ⟨g, cap, cur, hv, _⟩
  ·exact ⟨_, _, _, hv⟩
  ·exact ⟨_, _, _, hv⟩
 go_wp2
 go_ret2
 refine ⟨rfl, ?_, ?_⟩
 ·exact Lib.BuilderAt.put (T := 149) (e := 5) hB hb2 (bs' := bs ++ Lib.strCells s) (by simpa [Lib.strCells_length] using hown') (by decide)
 ·exact (hb1.grown hgrow (by have := hb1.size; omega) (fun k hk => (hown.lt k hk).1)).setCell (p := ⟨b, 1, none⟩) hB _
def fieldL (f : Fld) : List UInt8 := f.1 ++ [58, 32] ++ f.2 ++ [13, 10]
def showF (fs : List Fld) : List UInt8 := fs.flatMap fieldL
def showL (fs : List Fld) (body : List UInt8) : List UInt8 := showF fs ++ [13, 10] ++ body
theorem showF_snoc (fs : List Fld) (f : Fld) : showF (fs ++ [f]) = showF fs ++ fieldL f := by simp [showF]
theorem showF_take (fs : List Fld) (j : Nat) (h : j < fs.length) : showF (fs.take (j + 1)) = showF (fs.take j) ++ fieldL fs[j] := by
 rw [List.take_succ_eq_append_getElem h, showF_snoc]
theorem showF_le (fs : List Fld) (j : Nat) : (showF (fs.take j)).length ≤ (showF fs).length := by
 have h : fs = fs.take j ++ fs.drop j := (List.take_append_drop j fs).symm
 have h2 : showF fs = showF (fs.take j) ++ showF (fs.drop j) := by
  unfold showF
  rw [← List.flatMap_append, ← h]
 rw [h2, List.length_append]; omega
theorem showF_mem (fs : List Fld) (f : Fld) (h : f ∈ fs) : f.1.length + f.2.length + 4 ≤ (showF fs).length := by
 obtain ⟨a, b, rfl⟩ := List.append_of_mem h
 unfold showF
 rw [List.flatMap_append, List.flatMap_cons, List.length_append, List.length_append]
 unfold fieldL
 simp only [List.length_append, List.length_cons, List.length_nil]
 omega
def FldsAt (w : World) (v : Value) (fs : List Fld) : Prop :=
 ∃ G cap, v = .slice G fs.length cap ∧ ∀ i f, fs[i]? = some f → ∃ g, G = some ⟨g, 0, none⟩ ∧ g < w.heap.size ∧ w.cell? ⟨g, i * 2, none⟩ = some (.string ⟨f.1.toArray⟩) ∧ w.cell? ⟨g, i * 2 + 1, none⟩ = some (.string ⟨f.2.toArray⟩)
theorem FldsAt.down {w w' : World} {v : Value} {fs : List Fld} (h : FldsAt w v fs) (hb : Below w.heap.size w w') : FldsAt w' v fs := by
 obtain ⟨G, cap, hv, hf⟩ := h
 refine ⟨G, cap, hv, fun i f hi => ?_⟩
 obtain ⟨g, hG, hg, h0, h1⟩ := hf i f hi
 exact ⟨g, hG, Nat.lt_of_lt_of_le hg hb.size, moved h0 hb (Nat.le_refl _), moved h1 hb (Nat.le_refl _)⟩
theorem FldsAt.of_row {w : World} {base : Nat} {v : Value} {fs : List Fld} (h : w.ownsRow base 104 2 v fs.length (fcells fs)) : FldsAt w v fs := by
 by_cases h0 : 0 < fs.length
 ·obtain ⟨g, cap, rfl, _, hg⟩ := World.ownsRow.form h h0
  refine ⟨_, cap, rfl, fun i f hi => ⟨g, rfl, hg, ?_⟩⟩
  have hl : i < fs.length := (List.getElem?_eq_some_iff.1 hi).1
  obtain ⟨e0, e1⟩ := fcells_at fs i f hi
  exact ⟨(h.cellAt (i * 2) (by omega)).trans e0, (h.cellAt (i * 2 + 1) (by omega)).trans e1⟩
 ·rcases h.2 with ⟨h1, h2⟩ | ⟨g, cap, _, h1, _⟩
  ·refine ⟨none, 0, by rw [h1, h2], fun i f hi => ?_⟩
   have hl : i < fs.length := (List.getElem?_eq_some_iff.1 hi).1
   omega
  ·refine ⟨_, cap, h1, fun i f hi => ?_⟩
   have hl : i < fs.length := (List.getElem?_eq_some_iff.1 hi).1
   omega
theorem builder_down {T e B b : Nat} {p : Value} {bs : List Value} {w w' : World} (h : Lib.BuilderAt T e B b p bs w) (hb : Below w.heap.size w w') : Lib.BuilderAt T e B b p bs w' := by
 have hlt := h.lt
 obtain ⟨h1, v, h2, h3, h4⟩ := h
 exact ⟨h1, v, (hb.block b hlt).trans h2, row_down h3 hb, h4⟩
theorem isBuilder_down {T e B b : Nat} {bs : List Value} {w w' : World} (h : Lib.IsBuilder T e B b bs w) (hb : Below w.heap.size w w') : Lib.IsBuilder T e B b bs w' :=
 h.elim (fun h => .inl (builder_down h hb)) (fun h => .inr (builder_down h hb))
theorem show_eq (S body : ByteArray) (fs : List Fld) (h : S.data.toList = showF fs) : S ++ ⟨#[13, 10]⟩ ++ body = ⟨(showL fs body.data.toList).toArray⟩ := by
 apply ByteArray.ext
 apply Array.toList_inj.1
 rw [ByteArray.toList_data_append, ByteArray.toList_data_append, h]
 rfl
theorem field_eq (N V : ByteArray) (f : Fld) (h0 : N.data.toList = f.1) (h1 : V.data.toList = f.2) : (N ++ ⟨#[58, 32]⟩ ++ V ++ ⟨#[13, 10]⟩).data.toList = fieldL f := by
 rw [ByteArray.toList_data_append, ByteArray.toList_data_append, ByteArray.toList_data_append, h0, h1]
 rfl
theorem show_any (fs : List Fld) (v : Value) (body : ByteArray) (w : World) (hv : FldsAt w v fs) (hsz : (showF fs).length + body.size ≤ 1000000) :
    Calls Tryz.prog 73 #[.agg #[v, .string body]] w fun e w' => e = .returned (.string ⟨(showL fs body.data.toList).toArray⟩) ∧ Below w.heap.size w w' := by
 obtain ⟨R, hR⟩ : ∃ R, R = w.heap.size := ⟨_, rfl⟩
 have hfl : fs.length ≤ 1000000 := by
  have : ∀ l : List Fld, l.length ≤ (showF l).length := by
   intro l
   induction l with
   | nil => exact Nat.le_refl _
   | cons a l ih =>
    have : (showF (a :: l)).length = (fieldL a).length + (showF l).length := by simp [showF]
    have h2 : 4 ≤ (fieldL a).length := by unfold fieldL; simp only [List.length_append, List.length_cons, List.length_nil]; omega
    simp only [List.length_cons]; omega
  have := this fs
  omega
 have HV := Lib.hid hv
 obtain ⟨G, cap, hvv, hcells⟩ := hv
 subst hvv
 have HF : Hid (∀ j (h : j < fs.length) (wr : World), Below w.heap.size w wr → ∃ g, G = some ⟨g, 0, none⟩ ∧ ∃ N V : ByteArray, wr.cell? ⟨g, j * 2, none⟩ = some (.string N) ∧ wr.cell? ⟨g, j * 2 + 1, none⟩ = some (.string V) ∧ N.size + V.size + 4 ≤ 1000000 ∧
     (N ++ ⟨#[58, 32]⟩ ++ V ++ ⟨#[13, 10]⟩).size ≤ 1000000 ∧ Lib.byteCells (showF (fs.take j)) ++ Lib.strCells (N ++ ⟨#[58, 32]⟩ ++ V ++ ⟨#[13, 10]⟩) = Lib.byteCells (showF (fs.take (j + 1))) ∧ (Lib.byteCells (showF (fs.take j))).length ≤ 1000000) := by
  intro j h wr hb
  obtain ⟨g, hG, hg, h0, h1⟩ := hcells j fs[j] (List.getElem?_eq_getElem h)
  have hm := showF_mem fs fs[j] (List.getElem_mem h)
  have hle := showF_le fs j
  have hN : (⟨fs[j].1.toArray⟩ : ByteArray).size = fs[j].1.length := by show (List.toArray _).size = _; exact List.size_toArray
  have hV : (⟨fs[j].2.toArray⟩ : ByteArray).size = fs[j].2.length := by show (List.toArray _).size = _; exact List.size_toArray
  refine ⟨g, hG, ⟨fs[j].1.toArray⟩, ⟨fs[j].2.toArray⟩, moved h0 hb (Nat.le_refl _), moved h1 hb (Nat.le_refl _), by omega, ?_, ?_, ?_⟩
  ·rw [ByteArray.size_append, ByteArray.size_append, ByteArray.size_append, hN, hV]
   show fs[j].1.length + 2 + fs[j].2.length + 2 ≤ 1000000
   omega
  ·rw [Lib.strCells_eq, field_eq _ _ fs[j] rfl rfl, ← Lib.byteCells_append, ← showF_take fs j h]
  ·rw [Lib.byteCells_length]; omega
 have HSE : Hid (∀ S : ByteArray, S.data.toList = showF fs → S ++ ⟨#[13, 10]⟩ ++ body = ⟨(showL fs body.data.toList).toArray⟩) := fun S h => show_eq S body fs h
 obtain ⟨RES, hRES⟩ : ∃ RES : ByteArray, RES = ⟨(showL fs body.data.toList).toArray⟩ := ⟨_, rfl⟩
 rw [← hRES] at HSE ⊢
 have HSZ := Lib.hid hsz
 have HWS : Hid (∀ (B b : Nat) (bs : List Value) (s : ByteArray) (w : World), Lib.IsBuilder 149 5 B b bs w → bs.length + s.size ≤ 140737488355328 → B ≤ w.heap.size →
  Calls Tryz.prog 61 #[.pointer (some ⟨b, 0, none⟩), .string s] w fun e w' => e = .returned (.tuple #[.int .i64 s.size, .nilIface]) ∧ (Lib.BuilderAt 149 5 B b (.pointer (some ⟨b, 0, none⟩)) (bs ++ Lib.strCells s) w' ∧ Below B w w')) := fun B b bs s w h1 h2 h3 => writeString_any B b bs s w h1 h2 h3
 have HST : Hid (∀ (l : List UInt8) (w : World), Lib.IsBuilder 149 5 (R + 1) (R + 1) (Lib.byteCells l) w → R + 1 ≤ w.heap.size →
  Calls Tryz.prog 66 #[.pointer (some ⟨R + 1, 0, none⟩)] w fun e w' => e = .returned (.string ⟨l.toArray⟩) ∧ Below (R + 1) w w') := fun l w h1 h2 => Tryz.Builder_String_any (R + 1) (R + 1) l w h1 h2
 have hbox := alloc_cell w #[.slice G fs.length cap, .string body] 100 1 (.string body) rfl
 have hbox0 := alloc_cell w #[.slice G fs.length cap, .string body] 100 0 (.slice G fs.length cap) rfl
 rw [← hR] at hbox hbox0
 have hz0 : (w.alloc (.cells #[.slice G fs.length cap, .string body] 100)).heap.size = R + 1 := by rw [hR]; simp
 have hbl := Lib.fresh_isBuilder 149 5 (w.alloc (.cells #[.slice G fs.length cap, .string body] 100))
 rw [hz0] at hbl
 obtain ⟨W0, hW0⟩ : ∃ W0, W0 = (w.alloc (.cells #[.slice G fs.length cap, .string body] 100)).alloc (.cells #[.pointer none, .slice none 0 0] 149) := ⟨_, rfl⟩
 have hz1 : W0.heap.size = R + 2 := by rw [hW0, hR]; simp
 have hb0 : Below w.heap.size w W0 := by rw [hW0]; exact ba (ba (Below.refl _ w) _) _
 have hboxW : W0.cell? ⟨R, 1, none⟩ = some (.string body) := by rw [hW0]; exact moved hbox (ba (Below.refl _ _) _) (Nat.le_refl _)
 have hboxW0 : W0.cell? ⟨R, 0, none⟩ = some (.slice G fs.length cap) := by rw [hW0]; exact moved hbox0 (ba (Below.refl _ _) _) (Nat.le_refl _)
 rw [← hW0] at hbl
 have HW0 := Lib.hid hW0.symm
 have HR := Lib.hid hR
 have HRES := Lib.hid hRES
 clear hbox hbox0 hz0 hW0 hR hRES hsz hcells
 go_enter Tryz.func73, Tryz.ntmps73
 go_wp2_with fail
 rw [HW0.out, ← HR.out]
 go_loopw [9] (fun i wr => ∃ j : Nat, j ≤ fs.length ∧ i = .int .i64 j ∧ Lib.IsBuilder 149 5 (R + 1) (R + 1) (Lib.byteCells (showF (fs.take j))) wr ∧ Below (R + 1) W0 wr) (fun i _ => fs.length - (intOf i).toNat)
 case atStart => exact ⟨0, Nat.zero_le _, rfl, hbl, Below.refl _ _⟩
 case round =>
  obtain ⟨j, hj, rfl, hib, hbw⟩ := hrel
  clear hbl
  have hRw := Lib.hid HR.out
  have hbel : Below w.heap.size w wr := hb0.trans (hbw.mono (by rw [← HR.out]; omega))
  have hsz2 : R + 2 ≤ wr.heap.size := by have := hbw.size; omega
  have hbx := (hbw.cell (p := ⟨R, 1, none⟩) (by show R < R + 1; omega)).trans hboxW
  clear hboxW hboxW0
  by_cases hlt : j < fs.length
  ·obtain ⟨g, hG, N, V, h0, h1, hs1, hs2, hs3, hs4⟩ := HF.out j hlt wr hbel
   subst hG
   have HS3 := Lib.hid hs3; clear hs3
   have hib2 := isBuilder_down hib (ba (Below.refl _ wr) (.cells #[.string N, .string V] 104))
   have hws := HWS.out (R + 1) (R + 1) (Lib.byteCells (showF (fs.take j))) (N ++ ⟨#[58, 32]⟩ ++ V ++ ⟨#[13, 10]⟩) _ hib2 (by omega) (by simp; omega)
   clear hib hib2
   go_wp2_with fail
   refine hws.mono ?_
   rintro e w2 ⟨rfl, hba, hb2⟩
   rw [HS3.out] at hba
   have hbw2 : Below (R + 1) W0 w2 := (hbw.alloc (by omega) (.cells #[.string N, .string V] 104)).trans hb2
   clear hbel hsz2 hbx hws hbw hb2 h0 h1 hs2
   go_wp2_with fail
   go_roundw
   case rel => exact ⟨j + 1, by omega, by go_num, .inr hba, hbw2⟩
   case measure => simp [intOf]; omega
  ·obtain rfl : j = fs.length := by omega
   rw [List.take_length] at hib
   have hst := HST.out (showF fs) wr.drew hib (by show R + 1 ≤ wr.heap.size; omega)
   have hsf : (showF fs).length + body.size ≤ 1000000 := HSZ.out
   obtain ⟨S, hS⟩ : ∃ S : ByteArray, S = ⟨(showF fs).toArray⟩ := ⟨_, rfl⟩
   have hSs : S.size + body.size ≤ 1000000 := by rw [hS]; show (showF fs).toArray.size + _ ≤ _; rw [List.size_toArray]; exact hsf
   have hret := Lib.hid (HSE.out S (by rw [hS]))
   rw [← hS] at hst
   clear hS hsf
   go_wp2_with fail
   go_region_with (go_at_call 66; refine hst.mono ?_; rintro e w3 ⟨rfl, hb3⟩; have hbx3 := (hb3.cell (p := ⟨R, 1, none⟩) (by show R < R + 1; omega)).trans hbx)
   all_goals
    have hfin : Below w.heap.size w w3 := (Below.drew hbel).trans (hb3.mono (by rw [← HR.out]; omega))
    rw [hret.out]
    clear hbel hb3 hbx hbx3 hst hib hbw
    go_wp2_with fail
    go_ret
    exact ⟨rfl, hfin⟩
def ParseSays (B : Nat) (w' : World) (e : Ending) (r : Parsed) : Prop :=
 ∃ v, e = .returned (.tuple #[.agg #[v, .string ⟨r.1.2.toArray⟩], .int .i64 r.2.1, .int .i64 r.2.2]) ∧ w'.ownsRow B 104 2 v r.1.1.length (fcells r.1.1)
theorem infoFld : (Tryz.prog.info? 104).map (fun i => (i.zero, i.size, i.bytes)) = some (some (.agg #[.string ⟨#[]⟩, .string ⟨#[]⟩]), 2, 32) := by kernel_rfl
theorem cut_any (S sep : ByteArray) (m : Int) (w : World) (hS : S.size ≤ 2000000) (hne : sep.data.toList ≠ []) (hm : w.cell? ⟨6, 0, none⟩ = some (.int .i64 m)) :
    Calls Tryz.prog 115 #[.string S, .string sep] w fun e w' => (∃ X R : ByteArray, (sepL sep.data.toList S.data.toList = some (X.data.toList, R.data.toList) ∧ e = .returned (.tuple #[.string X, .string R, .bool true])) ∨
     (sepL sep.data.toList S.data.toList = none ∧ e = .returned (.tuple #[.string X, .string R, .bool false]))) ∧ Below w.heap.size w w' := by
 refine (Tryz.strings_Cut S sep m w (by omega) hm).mono ?_
 rintro e w' ⟨rfl, n, rfl⟩
 refine ⟨?_, below_drewN (Below.refl _ w) n⟩
 cases h : sepL sep.data.toList S.data.toList with
 | none => exact ⟨S, ⟨#[]⟩, .inr ⟨rfl, by rw [cut_none hne h]⟩⟩
 | some p =>
  obtain ⟨x, r⟩ := p
  exact ⟨⟨x.toArray⟩, ⟨r.toArray⟩, .inl ⟨by simp, by rw [cut_some hne h]⟩⟩
theorem trim_any (S : ByteArray) (w : World) (hS : S.size ≤ 2000000) :
    Calls Tryz.prog 114 #[.string S, .string ⟨#[32, 9]⟩] w fun e w' => e = .returned (.string ⟨(trimV S.data.toList).toArray⟩) ∧ Below w.heap.size w w' :=
 Any.strings_Trim_laid Tryz.lays160 (by kernel_rfl) S ⟨#[32, 9]⟩ w (by omega) (by decide) (ascii_of_all (by decide))
theorem res_set2 {w wr : World} {R : Nat} {a c : Value} (hbel : Below w.heap.size w wr) (hR : w.heap.size ≤ R) (z0 : wr.cell? ⟨R, 0, none⟩ = some a) (z1 : wr.cell? ⟨R, 1, none⟩ = some c) (v c' : Value) :
    ((wr.setCell ⟨R, 0, none⟩ v).setCell ⟨R, 1, none⟩ c').cell? ⟨R, 0, none⟩ = some v ∧ ((wr.setCell ⟨R, 0, none⟩ v).setCell ⟨R, 1, none⟩ c').cell? ⟨R, 1, none⟩ = some c' ∧ Below w.heap.size w ((wr.setCell ⟨R, 0, none⟩ v).setCell ⟨R, 1, none⟩ c') := by
 have n1 : (⟨R, 0, none⟩ : Addr) ≠ ⟨R, 1, none⟩ := by simp
 have n2 : (⟨R, 1, none⟩ : Addr) ≠ ⟨R, 0, none⟩ := Ne.symm n1
 refine ⟨(World.cell?_setCell_other _ _ _ _ n2).trans (World.cell?_setCell_same _ _ _ z0), World.cell?_setCell_same _ _ _ ((World.cell?_setCell_other _ _ _ _ n1).trans z1), (hbel.setCell (by show w.heap.size ≤ R; exact hR) v).setCell (by show w.heap.size ≤ R; exact hR) c'⟩
def strLen (v : Value) : Nat := match v with
 | .string S => S.size
 | _ => 0
theorem says_err {B : Nat} {w w' : World} {n c : Nat} (hB : Below B w w') : ParseSays B w' (.returned (.tuple #[.agg #[.slice none 0 0, .string ⟨#[]⟩], .int .i64 n, .int .i64 c])) (([], []), n, c) ∧ Below B w w' :=
 ⟨⟨.slice none 0 0, rfl, World.ownsRow_nil _ _ _ _⟩, hB⟩
theorem parse_any (s : ByteArray) (m : Int) (w : World) (hs : s.size ≤ 2000) (hm : w.cell? ⟨6, 0, none⟩ = some (.int .i64 m)) :
    Calls Tryz.prog 74 #[.string s] w fun e w' => ParseSays w.heap.size w' e (parseL 0 [] s.data.toList) ∧ Below w.heap.size w w' := by
 obtain ⟨R, hR⟩ : ∃ R, R = w.heap.size := ⟨_, rfl⟩
 obtain ⟨P0, hP0⟩ : ∃ P0, P0 = parseL 0 [] s.data.toList := ⟨_, rfl⟩
 have HC : Hid (∀ (S : ByteArray) w, S.size ≤ 2000 → w.cell? ⟨6, 0, none⟩ = some (.int .i64 m) → Calls Tryz.prog 115 #[.string S, .string ⟨#[13, 10]⟩] w fun e w' => (∃ X R : ByteArray, (sepL [13, 10] S.data.toList = some (X.data.toList, R.data.toList) ∧ e = .returned (.tuple #[.string X, .string R, .bool true])) ∨
     (sepL [13, 10] S.data.toList = none ∧ e = .returned (.tuple #[.string X, .string R, .bool false]))) ∧ Below w.heap.size w w') := fun S w h1 h2 => cut_any S ⟨#[13, 10]⟩ m w (by omega) (by decide) h2
 have HC2 : Hid (∀ (S : ByteArray) w, S.size ≤ 2000 → w.cell? ⟨6, 0, none⟩ = some (.int .i64 m) → Calls Tryz.prog 115 #[.string S, .string ⟨#[58]⟩] w fun e w' => (∃ X R : ByteArray, (sepL [58] S.data.toList = some (X.data.toList, R.data.toList) ∧ e = .returned (.tuple #[.string X, .string R, .bool true])) ∨
     (sepL [58] S.data.toList = none ∧ e = .returned (.tuple #[.string X, .string R, .bool false]))) ∧ Below w.heap.size w w') := fun S w h1 h2 => cut_any S ⟨#[58]⟩ m w (by omega) (by decide) h2
 have HT : Hid (∀ (S : ByteArray) w, S.size ≤ 2000 → Calls Tryz.prog 114 #[.string S, .string ⟨#[32, 9]⟩] w fun e w' => e = .returned (.string ⟨(trimV S.data.toList).toArray⟩) ∧ Below w.heap.size w w') := fun S w h => trim_any S w (by omega)
 have HN : Hid (∀ (N : ByteArray) (b : Bool) w, N.size ≤ 2000 → nameOK N.data.toList = b → Calls Tryz.prog 113 #[.string N] w fun e w' => e = .returned (.bool b) ∧ w = w') := fun N b w h1 h2 => by
  rw [← h2]; exact (name_any N w (by omega)).mono fun _ _ h => ⟨h.1, h.2.symm⟩
 obtain ⟨i0, hi, hz0, hz1, hz2⟩ := info_parts infoFld
 have HI := Lib.hid hi; have HZ0 := Lib.hid hz0; have HZ1 := Lib.hid hz1; have HZ2 := Lib.hid hz2
 clear hi hz0 hz1 hz2
 have hM := Lib.hid hm
 have HP0 := Lib.hid hP0
 have hp0 : Pair (w.alloc (.cells #[.slice none 0 0, .string ⟨#[]⟩] 100)) R (.slice none 0 0) (.string ⟨#[]⟩) := by rw [hR]; exact Pair.alloc w _ _ _
 have hz0 : (w.alloc (.cells #[.slice none 0 0, .string ⟨#[]⟩] 100)).heap.size = R + 1 := by rw [hR]; simp
 have hp1 := Pair.alloc (w.alloc (.cells #[.slice none 0 0, .string ⟨#[]⟩] 100)) (.slice none 0 0) (.string ⟨#[]⟩) 100
 rw [hz0] at hp1
 have hp0' := hp0.below (ba (Below.refl _ (w.alloc (.cells #[.slice none 0 0, .string ⟨#[]⟩] 100))) (.cells #[.slice none 0 0, .string ⟨#[]⟩] 100)) (by omega)
 have hb0 := ba (ba (Below.refl _ w) (.cells #[.slice none 0 0, .string ⟨#[]⟩] 100)) (.cells #[.slice none 0 0, .string ⟨#[]⟩] 100)
 have hz1 : ((w.alloc (.cells #[.slice none 0 0, .string ⟨#[]⟩] 100)).alloc (.cells #[.slice none 0 0, .string ⟨#[]⟩] 100)).heap.size = R + 2 := by rw [hR]; simp
 obtain ⟨W0, hW0⟩ : ∃ W0, W0 = (w.alloc (.cells #[.slice none 0 0, .string ⟨#[]⟩] 100)).alloc (.cells #[.slice none 0 0, .string ⟨#[]⟩] 100) := ⟨_, rfl⟩
 rw [← hW0] at hp1 hp0' hb0 hz1
 have HW0 := Lib.hid hW0.symm
 have HR := Lib.hid hR
 rw [← hP0]
 clear hm hP0 hp0 hz0 hW0 hR
 go_enter Tryz.func74, Tryz.ntmps74
 go_wp2_with fail
 rw [HW0.out, ← HR.out]
 go_loopw [0, 6] (fun v i wr => ∃ (n : Nat) (S : ByteArray) (fs : List Fld) (V : Value), v = .string S ∧ i = .int .i64 n ∧ Pair wr R (.slice none 0 0) (.string ⟨#[]⟩) ∧ Pair wr (R + 1) V (.string ⟨#[]⟩) ∧ wr.ownsRow (R + 2) 104 2 V fs.length (fcells fs) ∧ Below w.heap.size w wr ∧ R + 2 ≤ wr.heap.size ∧
     n + S.size ≤ 2000 ∧ fs.length ≤ 30 ∧ Hid (∀ f ∈ fs, f.2.length + S.size ≤ 2000) ∧ Hid (parseL n fs S.data.toList = P0)) (fun v _ _ => strLen v)
 case atStart => exact ⟨0, s, [], _, rfl, rfl, hp0', hp1, World.ownsRow_nil _ _ _ _, hb0, by omega, by omega, by simp, (fun f hf => by cases hf), HP0.out.symm⟩
 case round =>
  obtain ⟨n, S, fs, V, rfl, rfl, hq0, hq1, hown, hbel, hsz, hnS, hfl, hfv, heq⟩ := hrel
  clear hp0' hp1 hb0 hz1
  go_wp2_with fail
  refine (HC.out S _ (by omega) (moved hM.out hbel (Nat.le_refl _))).mono ?_
  rintro e w1 ⟨⟨X, r, hcut⟩, hb1⟩
  have hbel1 := bt hbel hb1
  have hr0 := hq0.below hb1 hq0.2.2.2.2
  have hr1 := hq1.below hb1 hq1.2.2.2.2
  have hown1 := row_down hown hb1
  have hsz1 : R + 2 ≤ w1.heap.size := Nat.le_trans hsz hb1.size
  clear hq0 hq1 hown hbel hsz hb1
  rcases hcut with ⟨hs1, rfl⟩ | ⟨hs1, rfl⟩
  ·have hlen : S.size = X.size + 2 + r.size := by have := sep_len hs1; simpa using this
   cases hx : X.toList.isEmpty with
   | true =>
    have hx0 : X.data.toList = [] := by rw [ByteArray.toList_eq] at hx; exact List.isEmpty_iff.1 hx
    have hres : Hid (P0 = ((fs.map trimF, r.data.toList), 0, 0)) := by unfold Hid; rw [← heq.out]; rw [hx0] at hs1; exact parse_end hs1
    clear hs1 heq
    have hr0' := hr0.else0 (show R ≠ R + 1 by omega) (i := 1) (.string r)
    have hr1' := hr1.set1 (.string r)
    have hown' := row_else hown1 (show R + 1 < R + 2 by omega) 1 (.string r)
    have hbel' := hbel1.setCell (p := ⟨R + 1, 1, none⟩) (by show w.heap.size ≤ R + 1; have := HR.out; omega) (.string r)
    have hsz' : R + 2 ≤ (w1.setCell ⟨R + 1, 1, none⟩ (.string r)).heap.size := by simpa [World.setCell] using hsz1
    obtain ⟨w2, hw2⟩ : ∃ w2, w2 = w1.setCell ⟨R + 1, 1, none⟩ (.string r) := ⟨_, rfl⟩
    rw [← hw2] at hr0' hr1' hown' hbel' hsz'
    have HW2 := Lib.hid hw2.symm; clear hw2
    obtain ⟨c0, c1, f0, f1, hlt⟩ := hr1
    have hr1'' := hr1'
    obtain ⟨k0, k1, i0, i1, hlt'⟩ := hr1'
    have c0' : (w1.setCell ⟨R + 1, 1, none⟩ (.string r)).cell? ⟨R + 1, 0, none⟩ = some V := by rw [HW2.out]; exact k0
    obtain ⟨G, cap, rfl⟩ : ∃ G cap, V = .slice G fs.length cap := by
     rcases hown1.2 with ⟨h, h0⟩ | ⟨g, cap, _, h, _⟩
     ·exact ⟨none, 0, by rw [h, h0]⟩
     ·exact ⟨_, cap, h⟩
    go_wp2_with fail
    rw [HW2.out]
    clear c0 c1 f0 f1 hlt k0 k1 i0 i1 hlt' c0' HW2 hown1 hbel1 hr0 hsz1
    go_loopw [68] (fun i wx => ∃ j : Nat, j ≤ fs.length ∧ i = .int .i64 j ∧ Pair wx R (.slice none 0 0) (.string ⟨#[]⟩) ∧ Pair wx (R + 1) (.slice G fs.length cap) (.string r) ∧ wx.ownsRow (R + 2) 104 2 (.slice G fs.length cap) fs.length (fcells ((fs.take j).map trimF ++ fs.drop j)) ∧ Below w.heap.size w wx ∧ R + 2 ≤ wx.heap.size) (fun i _ => fs.length - (intOf i).toNat)
    case atStart => exact ⟨0, Nat.zero_le _, rfl, hr0', hr1'', by simpa using hown', hbel', hsz'⟩
    case round =>
     clear hr0' hr1'' hown' hbel' hsz'
     obtain ⟨j, hj, rfl, hq0, hq1, hown, hbel, hsz⟩ := hrel
     by_cases hlt : j < fs.length
     ·obtain ⟨g, cap2, hv, hg1, hg2⟩ := World.ownsRow.form hown (by omega)
      injection hv with hG _ hcap
      subst hG; subst hcap
      have hLj : ((fs.take j).map trimF ++ fs.drop j)[j]? = some fs[j] := by
       rw [List.getElem?_append_right (by rw [List.length_map, List.length_take]; omega), List.length_map, List.length_take, Nat.min_eq_left hj, Nat.sub_self, List.getElem?_drop, Nat.add_zero, List.getElem?_eq_getElem hlt]
      have hnext := upd_trim j fs hlt
      obtain ⟨L, hL⟩ : ∃ L, L = (fs.take j).map trimF ++ fs.drop j := ⟨_, rfl⟩
      rw [← hL] at hLj hnext hown
      obtain ⟨f, hf⟩ : ∃ f, f = fs[j] := ⟨_, rfl⟩
      have hfs : f.2.length ≤ 2000 := by
       have := hfv.out f (by rw [hf]; exact List.getElem_mem hlt)
       omega
      rw [← hf] at hLj
      have hset := fcells_upd trimV j L f hLj
      rw [hnext] at hset
      have hcell := (hown.cellAt (j * 2 + 1) (by omega)).trans (fcells_at L j f hLj).2
      have hfr := hown.frozenAt (j * 2 + 1)
      obtain ⟨B, hB⟩ : ∃ B : ByteArray, B = ⟨f.2.toArray⟩ := ⟨_, rfl⟩
      have hBl : B.data.toList = f.2 := by rw [hB]
      have hBs : B.size ≤ 2000 := by rw [hB]; simpa [ByteArray.size] using hfs
      rw [← hB] at hcell
      rw [← hBl] at hset
      have HSET := Lib.hid hset
      clear hLj hnext hL hf hset hB hBl hfs
      have hq1' := hq1
      obtain ⟨c0, c1, f0, f1, hbl⟩ := hq1
      have hbd := Below.drew (Below.refl wr.heap.size wr)
      go_wp2_with fail
      go_region_with (go_at_call 114; refine (HT.out B _ hBs).mono ?_; rintro e w3 ⟨rfl, hb3⟩; have hb4 := bt hbd hb3; have d0 := moved c0 hb4 (Nat.le_refl _); have hcell3 := moved hcell hb4 (Nat.le_refl _); have hfr3 := (hb4.frozen (p := ⟨g, j * 2 + 1, none⟩) (by show g < _; omega)).trans hfr)
      all_goals
       have z0 := hq0.below hb4 hq0.2.2.2.2
       have z1 := hq1'.below hb4 hq1'.2.2.2.2
       have zo := (row_down hown hb4).stored (j * 2 + 1) (.string ⟨(trimV B.data.toList).toArray⟩)
       have zb := bt hbel hb4
       have y0 := z0.kept zo.2 (by intro e; have := Option.some.inj e; omega)
       have y1 := z1.kept zo.2 (by intro e; have := Option.some.inj e; omega)
       have yo := zo.1
       rw [← HSET.out] at yo
       have yb := below_row zb (Nat.le_refl _) (row_down hown hb4) (by have := HR.out; omega) zo.2
       have ys := Nat.le_trans (Nat.le_trans hsz hb4.size) zo.2.size
       obtain ⟨w5, hw5⟩ : ∃ w5, w5 = w3.setCell ⟨g, j * 2 + 1, none⟩ (.string ⟨(trimV B.data.toList).toArray⟩) := ⟨_, rfl⟩
       rw [← hw5] at y0 y1 yo yb ys ⊢
       clear hw5 zo zb z0 z1 hb4 hb3 c0 c1 f0 f1 hbl hcell hfr hcell3 hfr3 d0 hq0 hq1' hown hbel hsz hbd
       go_wp2_with fail
       go_roundw
       case rel => exact ⟨j + 1, by omega, by go_num, y0, y1, yo, yb, ys⟩
       case measure => simp [intOf]; omega
     ·obtain rfl : j = fs.length := by omega
      rw [List.take_length, List.drop_length, List.append_nil] at hown
      obtain ⟨c0, c1, f0, f1, hbl⟩ := hq1
      obtain ⟨d0, d1, g0, g1, hbl2⟩ := hq0
      obtain ⟨e0, e1, hbF⟩ := res_set2 hbel (by have := HR.out; omega) d0 d1 (.slice G fs.length cap) (.string r)
      have hownF := row_else (row_else hown (show R < R + 2 by omega) 0 (.slice G fs.length cap)) (show R < R + 2 by omega) 1 (.string r)
      go_wp2_with fail
      refine bodyPost_ret (v := .tuple #[.agg #[.slice G fs.length cap, .string r], .int .i64 0, .int .i64 0]) (by simp [results, Tryz.results74, go_sem, e0, e1]) rfl ?_
      show ParseSays _ _ _ P0 ∧ _
      rw [hres.out]
      exact ⟨⟨_, rfl, by rw [List.length_map]; exact row_base (by have := HR.out; omega) hownF⟩, hbF⟩
   | false =>
    have hx0 : X.data.toList.isEmpty = false := by rw [ByteArray.toList_eq] at hx; exact hx
    have hxs : 0 < X.size := by
     have h1 : X.data.toList.length ≠ 0 := by intro h; rw [List.length_eq_zero_iff.1 h] at hx0; cases hx0
     have h2 : X.data.toList.length = X.size := by simp
     omega
    obtain ⟨c, hc⟩ : ∃ c : UInt8, X[0] = c := ⟨_, rfl⟩
    have hhd : X.data.toList.headD 0 = c := by
     have h1 : X.data.toList[0]? = some c := by rw [List.getElem?_eq_getElem (by simpa using hxs)]; exact congrArg some hc
     cases hl : X.data.toList with
     | nil => rw [hl] at h1; cases h1
     | cons a b => rw [hl] at h1; exact Option.some.inj h1
    have HX0 := Lib.hid hx0
    clear hx0
    have hcase : (0 < fs.length ∧ (c = 32 ∨ c ≠ 32 ∧ c = 9)) ∨ ((isBlank (X.data.toList.headD 0) && decide (0 < fs.length)) = false ∧ (c = 32 ∧ fs.length = 0 ∨ c ≠ 32 ∧ c = 9 ∧ fs.length = 0 ∨ c ≠ 32 ∧ c ≠ 9)) := by
     by_cases h32 : c = 32
     ·by_cases h0 : 0 < fs.length
      ·exact .inl ⟨h0, .inl h32⟩
      ·exact .inr ⟨by rw [decide_eq_false h0, Bool.and_false], .inl ⟨h32, by omega⟩⟩
     ·by_cases h9 : c = 9
      ·by_cases h0 : 0 < fs.length
       ·exact .inl ⟨h0, .inr ⟨h32, h9⟩⟩
       ·exact .inr ⟨by rw [decide_eq_false h0, Bool.and_false], .inr (.inl ⟨h32, h9, by omega⟩)⟩
      ·exact .inr ⟨by rw [hhd]; unfold isBlank; rw [beq_eq_false_iff_ne.2 h32, beq_eq_false_iff_ne.2 h9]; rfl, .inr (.inr ⟨h32, h9⟩)⟩
    rcases hcase with ⟨h0, hcc⟩ | ⟨hnb, hcc⟩
    ·obtain ⟨k, hk⟩ : ∃ k, fs.length = k + 1 := ⟨fs.length - 1, by omega⟩
     have hres : Hid (parseL (n + 1) (updV (· ++ X.data.toList) k fs) r.data.toList = P0) := by
      unfold Hid
      rw [← heq.out, parse_fold hs1 HX0.out (by
       rw [hhd, decide_eq_true h0]
       rcases hcc with rfl | ⟨_, rfl⟩ <;> rfl), hk]
      rfl
     clear hs1 heq hhd
     have hfk : fs[k]? = some fs[k] := List.getElem?_eq_getElem (by omega)
     obtain ⟨f, hf⟩ : ∃ f, f = fs[k] := ⟨_, rfl⟩
     rw [← hf] at hfk
     have hfs : f.2.length + S.size ≤ 2000 := hfv.out f (by rw [hf]; exact List.getElem_mem (by omega))
     have hset := fcells_upd (· ++ X.data.toList) k fs f hfk
     obtain ⟨g, cap, rfl, hg1, hg2⟩ := World.ownsRow.form hown1 (by omega)
     rw [hk] at hown1 hr1
     have hcell := (hown1.cellAt (k * 2 + 1) (by omega)).trans (fcells_at fs k f hfk).2
     have hfr := hown1.frozenAt (k * 2 + 1)
     obtain ⟨B, hB⟩ : ∃ B : ByteArray, B = ⟨f.2.toArray⟩ := ⟨_, rfl⟩
     have hBl : B.data.toList = f.2 := by rw [hB]
     have hBs : B.size + S.size ≤ 2000 := by rw [hB]; show f.2.toArray.size + S.size ≤ 2000; rw [List.size_toArray]; exact hfs
     rw [← hB] at hcell
     have hset2 : fcells (updV (· ++ X.data.toList) k fs) = (fcells fs).set (k * 2 + 1) (.string (B ++ X)) := by
      rw [hset]
      congr 2
      rw [← hBl]
      exact ByteArray.ext (Array.toList_inj.1 (by rw [ByteArray.toList_data_append]))
     have HSET := Lib.hid hset2
     have hnv : Hid (∀ f' ∈ updV (· ++ X.data.toList) k fs, f'.2.length + r.size ≤ 2000) := by
      intro f' hf'
      have := upd_mem (· ++ X.data.toList) k fs f' hf'
      rcases this with h | ⟨f0, h, h2⟩
      ·have := hfv.out f' h; omega
      ·have h3 := hfv.out f0 h
       rw [h2]
       simp only [List.length_append]
       have : X.data.toList.length = X.size := by simp
       omega
     clear hset hset2 hfk hf hB hBl hfs
     have hr1' := hr1
     obtain ⟨c0, c1, f0, f1, hbl⟩ := hr1
     have hbt : ((X[0].toNat : Int) == 32) = true ∨ ((X[0].toNat : Int) == 32) = false ∧ ((X[0].toNat : Int) == 9) = true := by
      rw [hc]
      rcases hcc with rfl | ⟨h1, rfl⟩
      ·exact .inl rfl
      ·exact .inr ⟨rfl, rfl⟩
     clear hcc hc
     rcases hbt with e1 | ⟨e1, e2⟩
     all_goals
      go_wp2_with fail
      have zo := hown1.stored (k * 2 + 1) (.string (B ++ X))
      have y0 := hr0.kept zo.2 (by intro e; have := Option.some.inj e; omega)
      have y1 := hr1'.kept zo.2 (by intro e; have := Option.some.inj e; omega)
      have yo := zo.1
      rw [← HSET.out] at yo
      have yb := below_row hbel1 (Nat.le_refl _) hown1 (by have := HR.out; omega) zo.2
      have ys := Nat.le_trans hsz1 zo.2.size
      go_roundw
      case rel => exact ⟨n + 1, r, updV (· ++ X.data.toList) k fs, _, rfl, by go_num, y0, y1, by rw [updV_length, hk]; exact yo, yb, ys, by omega, by rw [updV_length]; exact hfl, hnv, hres⟩
      case measure => show r.size < S.size; omega
    ·have hbt : (((X[0].toNat : Int) == 32) = true ∧ decide (0 < fs.length) = false) ∨ (((X[0].toNat : Int) == 32) = false ∧ ((X[0].toNat : Int) == 9) = true ∧ decide (0 < fs.length) = false) ∨ (((X[0].toNat : Int) == 32) = false ∧ ((X[0].toNat : Int) == 9) = false) := by
      rw [hc]
      rcases hcc with ⟨rfl, h⟩ | ⟨_, rfl, h⟩ | ⟨h1, h2⟩
      ·exact .inl ⟨rfl, decide_eq_false (by omega)⟩
      ·exact .inr (.inl ⟨rfl, rfl, decide_eq_false (by omega)⟩)
      ·exact .inr (.inr ⟨beq_eq_false_iff_ne.2 (fun e => h1 (UInt8.toNat_inj.1 (Int.ofNat_inj.1 e))), beq_eq_false_iff_ne.2 (fun e => h2 (UInt8.toNat_inj.1 (Int.ofNat_inj.1 e)))⟩)
     have HNB := Lib.hid hnb
     clear hcc hc hhd hnb
     obtain ⟨G, cap, rfl⟩ : ∃ G cap, V = .slice G fs.length cap := by
      rcases hown1.2 with ⟨h, h0⟩ | ⟨g, cap, _, h, _⟩
      ·exact ⟨none, 0, by rw [h, h0]⟩
      ·exact ⟨_, cap, h⟩
     have hr1' := hr1
     have HS1 := Lib.hid hs1; clear hs1
     obtain ⟨c0, c1, f0, f1, hbl⟩ := hr1
     have hXs : X.size ≤ 2000 := by omega
     rcases hbt with ⟨e1, e4⟩ | ⟨e1, e2, e4⟩ | ⟨e1, e2⟩
     all_goals
      go_wp2_with fail
      refine (HC2.out X _ hXs (moved hM.out hbel1 (Nat.le_refl _))).mono ?_
      rintro e w2 ⟨⟨Nm, Vv, hcut⟩, hb2⟩
      have hbel2 := bt hbel1 hb2
      have hr02 := hr0.below hb2 hr0.2.2.2.2
      have hr12 := hr1'.below hb2 hr1'.2.2.2.2
      have hown2 := row_down hown1 hb2
      have hsz2 : R + 2 ≤ w2.heap.size := Nat.le_trans hsz1 hb2.size
      clear c0 c1 f0 f1 hbl hr0 hr1' hown1 hbel1 hsz1 hb2 e1
      obtain ⟨c0, c1, f0, f1, hbl⟩ := hr12
      have hr12' : Pair w2 (R + 1) (.slice G fs.length cap) (.string ⟨#[]⟩) := ⟨c0, c1, f0, f1, hbl⟩
      rcases hcut with ⟨hs2, rfl⟩ | ⟨hs2, rfl⟩
      ·have hlen2 : X.size = Nm.size + 1 + Vv.size := by have := sep_len hs2; simpa using this
       have HS2 := Lib.hid hs2; clear hs2
       cases hnm : nameOK Nm.data.toList with
       | false =>
        have hcall := HN.out Nm false w2 (by omega) hnm
        have hres : Hid (P0 = (([], []), n, 3)) := by unfold Hid; rw [← heq.out, parse_bad HS1.out HX0.out HNB.out HS2.out hnm]
        clear hnm
        obtain ⟨d0, d1, g0, g1, hbl2⟩ := hr02
        obtain ⟨z0, z1, hbF⟩ := res_set2 hbel2 (by have := HR.out; omega) d0 d1 (.slice none 0 0) (.string ⟨#[]⟩)
        go_wp2_with fail
        refine hcall.mono ?_
        rintro e w3 ⟨rfl, rfl⟩
        go_wp2_with fail
        refine bodyPost_ret (v := .tuple #[.agg #[.slice none 0 0, .string ⟨#[]⟩], .int .i64 n, .int .i64 3]) (by simp [results, Tryz.results74, go_sem, z0, z1]) rfl ?_
        show ParseSays _ _ _ P0 ∧ _
        rw [hres.out]
        exact says_err hbF
       | true =>
        have hcall := HN.out Nm true w2 (by omega) hnm
        have HNM := Lib.hid hnm; clear hnm
        by_cases h30 : fs.length = 30
        ·have hres : Hid (P0 = (([], []), n, 5)) := by unfold Hid; rw [← heq.out, parse_full HS1.out HX0.out HNB.out HS2.out HNM.out h30]
         obtain ⟨d0, d1, g0, g1, hbl2⟩ := hr02
         obtain ⟨z0, z1, hbF⟩ := res_set2 hbel2 (by have := HR.out; omega) d0 d1 (.slice none 0 0) (.string ⟨#[]⟩)
         have h31 : ((fs.length : Int) == 30) = true := beq_iff_eq.2 (by omega)
         go_wp2_with fail
         refine hcall.mono ?_
         rintro e w3 ⟨rfl, rfl⟩
         go_wp2_with fail
         refine bodyPost_ret (v := .tuple #[.agg #[.slice none 0 0, .string ⟨#[]⟩], .int .i64 n, .int .i64 5]) (by simp [results, Tryz.results74, go_sem, z0, z1]) rfl ?_
         show ParseSays _ _ _ P0 ∧ _
         rw [hres.out]
         exact says_err hbF
        ·have hres : Hid (parseL (n + 1) (fs ++ [(Nm.data.toList, Vv.data.toList)]) r.data.toList = P0) := by unfold Hid; rw [← heq.out, parse_field HS1.out HX0.out HNB.out HS2.out HNM.out h30]
         have h31 : ((fs.length : Int) == 30) = false := beq_eq_false_iff_ne.2 (by omega)
         have hnv : Hid (∀ f ∈ fs ++ [(Nm.data.toList, Vv.data.toList)], f.2.length + r.size ≤ 2000) := by
          intro f hf
          rcases List.mem_append.1 hf with h | h
          ·have := hfv.out f h; omega
          ·obtain rfl := List.mem_singleton.1 h
           have : Vv.data.toList.length = Vv.size := by simp
           show Vv.data.toList.length + r.size ≤ 2000
           omega
         have hcl := fcells_length fs
         go_wp2_with fail
         refine hcall.mono ?_
         rintro e w3 ⟨rfl, rfl⟩
         go_wp2_with (at_builtin; refine wpList_append_lies _ (by rfl) _ _ _ (by rfl) (R + 2) 104 i0 _ 2 32 Tryz.underlying98 HI.out HZ0.out HZ1.out HZ2.out rfl (by omega) (.slice G fs.length cap) fs.length (fcells fs) (by rfl) (hown2.alloc _) ⟨w2.heap.size, 0, none⟩ 1 1 [.string Nm, .string Vv] (by rfl) (by rfl) (World.news_of_block (cs := #[.string Nm, .string Vv]) (t := 104) (fr := (0, 0)) (heap_alloc_new w2 _)) (by simp [Value.oneCell']) (by omega) (by unfold maxLen; omega) (by omega) (by simp; omega) (w2.heap.size + 1) (by simp) ?_)
         intro g cap2 w4 hown4 hgrow _ hglt
         have hsn : fcells (fs ++ [(Nm.data.toList, Vv.data.toList)]) = fcells fs ++ [.string Nm, .string Vv] := fcells_snoc fs _
         rw [← hsn] at hown4
         have ap := ba (Below.refl _ w2) (.cells #[.string Nm, .string Vv] 104)
         have k1 := (hr12'.below ap hr12'.2.2.2.2).kept hgrow (row_apart hown2 (by omega))
         have k0 := (hr02.below ap hr02.2.2.2.2).kept hgrow (row_apart hown2 (by omega))
         have l1 := k1.set0 (.slice (some ⟨g, 0, none⟩) (fs.length + 1) cap2)
         have l0 := k0.else0 (show R ≠ R + 1 by omega) (i := 0) (.slice (some ⟨g, 0, none⟩) (fs.length + 1) cap2)
         have lo := row_else hown4 (show R + 1 < R + 2 by omega) 0 (.slice (some ⟨g, 0, none⟩) (fs.length + 1) cap2)
         have hR2 := HR.out
         have lb := (below_row (ba hbel2 (.cells #[.string Nm, .string Vv] 104)) (Nat.le_refl _) (hown2.alloc (.cells #[.string Nm, .string Vv] 104)) (by omega) hgrow).setCell (p := ⟨R + 1, 0, none⟩) (by show w.heap.size ≤ R + 1; omega) (.slice (some ⟨g, 0, none⟩) (fs.length + 1) cap2)
         have ls : R + 2 ≤ (w4.setCell ⟨R + 1, 0, none⟩ (.slice (some ⟨g, 0, none⟩) (fs.length + 1) cap2)).heap.size := by
          have h1 := hgrow.size
          have h2 := ap.size
          have h3 : (w4.setCell ⟨R + 1, 0, none⟩ (.slice (some ⟨g, 0, none⟩) (fs.length + 1) cap2)).heap.size = w4.heap.size := by simp [World.setCell]
          omega
         obtain ⟨x0, x1, y0, y1, hbl3⟩ := k1
         clear hR2 hown4 hgrow hglt ap k0 c0 c1 f0 f1 hbl hr12' hr02 hown2 hbel2 hsz2 hcall
         go_wp2_with fail
         go_roundw
         case rel => exact ⟨n + 1, r, _, _, rfl, by go_num, l0, l1, by rw [List.length_append]; exact lo, lb, ls, by omega, by simp; omega, hnv, hres⟩
         case measure => show r.size < S.size; omega
      ·have hres : Hid (P0 = (([], []), n, 3)) := by unfold Hid; rw [← heq.out, parse_nocolon HS1.out HX0.out HNB.out hs2]
       clear hs2
       obtain ⟨d0, d1, g0, g1, hbl2⟩ := hr02
       obtain ⟨z0, z1, hbF⟩ := res_set2 hbel2 (by have := HR.out; omega) d0 d1 (.slice none 0 0) (.string ⟨#[]⟩)
       go_wp2_with fail
       refine bodyPost_ret (v := .tuple #[.agg #[.slice none 0 0, .string ⟨#[]⟩], .int .i64 n, .int .i64 3]) (by simp [results, Tryz.results74, go_sem, z0, z1]) rfl ?_
       show ParseSays _ _ _ P0 ∧ _
       rw [hres.out]
       exact says_err hbF
  ·have hres : Hid (P0 = (([], []), n, 4)) := by unfold Hid; rw [← heq.out, parse_short hs1]
   clear hs1
   obtain ⟨c0, c1, f0, f1, hlt⟩ := hr0
   obtain ⟨e0, e1, hbF⟩ := res_set2 hbel1 (by have := HR.out; omega) c0 c1 (.slice none 0 0) (.string ⟨#[]⟩)
   go_wp2_with fail
   refine bodyPost_ret (v := .tuple #[.agg #[.slice none 0 0, .string ⟨#[]⟩], .int .i64 n, .int .i64 4]) (by simp [results, Tryz.results74, go_sem, e0, e1]) rfl ?_
   show ParseSays _ _ _ P0 ∧ _
   rw [hres.out]
   exact says_err hbF
def Good (f : Fld) : Prop := nameOK f.1 = true ∧ sepL [13, 10] f.2 = none ∧ trimV f.2 = f.2
theorem trim_good (S : ByteArray) (w : World) (hS : S.size ≤ 2000000) (h : trimV S.data.toList = S.data.toList) :
    Calls Tryz.prog 114 #[.string S, .string ⟨#[32, 9]⟩] w fun e w' => e = .returned (.string S) ∧ Below w.heap.size w w' := by
 have := Any.strings_Trim_laid Tryz.lays160 (by kernel_rfl) S ⟨#[32, 9]⟩ w (by omega) (by decide) (ascii_of_all (by decide))
 refine this.mono ?_
 rintro e w' ⟨rfl, hb⟩
 refine ⟨?_, hb⟩
 show Ending.returned (.string ⟨(trimV S.data.toList).toArray⟩) = _
 rw [h]
theorem contains_none (S : ByteArray) (m : Int) (w : World) (hS : S.size ≤ 2000000) (h : sepL [13, 10] S.data.toList = none) (hm : w.cell? ⟨6, 0, none⟩ = some (.int .i64 m)) :
    Calls Tryz.prog 105 #[.string S, .string ⟨#[13, 10]⟩] w fun e w' => e = .returned (.bool false) ∧ w = w' := by
 refine (Tryz.strings_Contains S ⟨#[13, 10]⟩ m w (by omega) hm).mono ?_
 rintro e w' ⟨rfl, rfl⟩
 refine ⟨?_, rfl⟩
 rw [contains_sep _ _ (by decide)]
 show Ending.returned (.bool (sepL [13, 10] S.data.toList).isSome) = _
 rw [h]; rfl
theorem mcheck_any (fs : List Fld) (v : Value) (body : ByteArray) (m : Int) (w : World) (hv : FldsAt w v fs) (hgood : ∀ f ∈ fs, Good f) (hlen : fs.length ≤ 30) (hsz : (showF fs).length + body.size ≤ 900000) (hm : w.cell? ⟨6, 0, none⟩ = some (.int .i64 m)) :
    Calls Tryz.prog 72 #[.agg #[v, .string body]] w fun e w' => e = .returned (.int .i64 (if 2000 < (showL fs body.data.toList).length then 1 else 0)) ∧ Below w.heap.size w w' := by
 obtain ⟨R, hR⟩ : ∃ R, R = w.heap.size := ⟨_, rfl⟩
 have HV := Lib.hid hv
 obtain ⟨G, cap, hvv, hcells⟩ := hv
 subst hvv
 have HF : Hid (∀ j (h : j < fs.length) (wr : World), Below w.heap.size w wr → ∃ g, G = some ⟨g, 0, none⟩ ∧ ∃ N V : ByteArray, wr.cell? ⟨g, j * 2, none⟩ = some (.string N) ∧ wr.cell? ⟨g, j * 2 + 1, none⟩ = some (.string V) ∧
     (∀ w, Calls Tryz.prog 113 #[.string N] w fun e w' => e = .returned (.bool true) ∧ w = w') ∧ (∀ w, w.cell? ⟨6, 0, none⟩ = some (.int .i64 m) → Calls Tryz.prog 105 #[.string V, .string ⟨#[13, 10]⟩] w fun e w' => e = .returned (.bool false) ∧ w = w') ∧
     (∀ w, Calls Tryz.prog 114 #[.string V, .string ⟨#[32, 9]⟩] w fun e w' => e = .returned (.string V) ∧ Below w.heap.size w w')) := by
  intro j h wr hb
  obtain ⟨g, hG, hg, h0, h1⟩ := hcells j fs[j] (List.getElem?_eq_getElem h)
  have hmem := showF_mem fs fs[j] (List.getElem_mem h)
  obtain ⟨g1, g2, g3⟩ := hgood fs[j] (List.getElem_mem h)
  have hN : (⟨fs[j].1.toArray⟩ : ByteArray).size = fs[j].1.length := by show (List.toArray _).size = _; exact List.size_toArray
  have hV : (⟨fs[j].2.toArray⟩ : ByteArray).size = fs[j].2.length := by show (List.toArray _).size = _; exact List.size_toArray
  refine ⟨g, hG, ⟨fs[j].1.toArray⟩, ⟨fs[j].2.toArray⟩, moved h0 hb (Nat.le_refl _), moved h1 hb (Nat.le_refl _), ?_, ?_, ?_⟩
  ·intro w
   refine (name_any ⟨fs[j].1.toArray⟩ w (by omega)).mono ?_
   rintro e w' ⟨rfl, rfl⟩
   exact ⟨by rw [show (⟨fs[j].1.toArray⟩ : ByteArray).data.toList = fs[j].1 from rfl, g1], rfl⟩
  ·intro w hw
   exact contains_none _ m w (by omega) g2 hw
  ·intro w
   exact trim_good _ w (by omega) g3
 have HSH : Hid (∀ wr, Below w.heap.size w wr → Calls Tryz.prog 73 #[.agg #[.slice G fs.length cap, .string body]] wr fun e w' => e = .returned (.string ⟨(showL fs body.data.toList).toArray⟩) ∧ Below wr.heap.size wr w') :=
  fun wr hb => show_any fs _ body wr (HV.out.down hb) (by omega)
 obtain ⟨RES, hRES⟩ : ∃ RES : ByteArray, RES = ⟨(showL fs body.data.toList).toArray⟩ := ⟨_, rfl⟩
 have hRs : (showL fs body.data.toList).length = RES.size := by rw [hRES]; show _ = (List.toArray _).size; exact List.size_toArray.symm
 have hRl : RES.size ≤ 1000000 := by
  rw [← hRs]; unfold showL
  simp only [List.length_append, List.length_cons, List.length_nil]
  have : body.data.toList.length = body.size := by simp
  omega
 rw [← hRES] at HSH
 rw [hRs]
 have hbox := alloc_cell w #[.slice G fs.length cap, .string body] 100 1 (.string body) rfl
 have hbox0 := alloc_cell w #[.slice G fs.length cap, .string body] 100 0 (.slice G fs.length cap) rfl
 rw [← hR] at hbox hbox0
 obtain ⟨W0, hW0⟩ : ∃ W0, W0 = w.alloc (.cells #[.slice G fs.length cap, .string body] 100) := ⟨_, rfl⟩
 have hz1 : W0.heap.size = R + 1 := by rw [hW0, hR]; simp
 have hb0 : Below w.heap.size w W0 := by rw [hW0]; exact ba (Below.refl _ w) _
 rw [← hW0] at hbox hbox0
 have HW0 := Lib.hid hW0.symm
 have HR := Lib.hid hR
 have hM := Lib.hid hm
 clear hW0 hR hRES hsz hcells hRs hm
 go_enter Tryz.func72, Tryz.ntmps72
 go_wp2_with fail
 rw [HW0.out, ← HR.out]
 go_loopw [13] (fun i wr => ∃ j : Nat, j ≤ fs.length ∧ i = .int .i64 j ∧ Below W0.heap.size W0 wr) (fun i _ => fs.length - (intOf i).toNat)
 case atStart => exact ⟨0, Nat.zero_le _, rfl, Below.refl _ _⟩
 case round =>
  obtain ⟨j, hj, rfl, hbw⟩ := hrel
  have hbel : Below w.heap.size w wr := bt hb0 hbw
  by_cases hlt : j < fs.length
  ·obtain ⟨g, hG, N, V, h0, h1, hn, hc, ht⟩ := HF.out j hlt wr hbel
   subst hG
   have p0 := alloc_cell wr #[.string N, .string V] 104 0 _ rfl
   have p1 := alloc_cell wr #[.string N, .string V] 104 1 _ rfl
   have hbA := ba (Below.refl _ wr) (.cells #[.string N, .string V] 104)
   obtain ⟨W1, hW1⟩ : ∃ W1, W1 = wr.alloc (.cells #[.string N, .string V] 104) := ⟨_, rfl⟩
   rw [← hW1] at p0 p1 hbA
   have HW1 := Lib.hid hW1.symm; clear hW1
   have hbwA := bt hbw hbA
   have HTr := ht W1.drew
   have HCn := hc W1.drew (moved hM.out (Below.drew (bt hb0 hbwA)) (Nat.le_refl _))
   have HNm := hn W1.drew
   clear hbel hbox hbox0
   go_wp2_with fail
   rw [HW1.out]
   go_region_with (first
    | (go_at_call 113; refine HNm.mono ?_; rintro e w3 ⟨rfl, rfl⟩)
    | (go_at_call 105; refine HCn.mono ?_; rintro e w3 ⟨rfl, rfl⟩)
    | (go_at_call 114; refine HTr.mono ?_; rintro e w3 ⟨rfl, hb3⟩; have p3 := moved (w := W1.drew) p1 hb3 (Nat.le_refl _)))
   all_goals
    have hbw3 : Below W0.heap.size W0 w3 := bt (Below.drew hbwA) hb3
    clear hb3 hbwA hbA hbw p0 p1 p3 h0 h1
    go_wp2_with fail
    go_roundw
    case rel => exact ⟨j + 1, by omega, by go_num, hbw3⟩
    case measure => simp [intOf]; omega
  ·obtain rfl : j = fs.length := by omega
   have hbx0 := moved hbox0 hbw (Nat.le_refl _)
   have hbx1 := moved hbox hbw (Nat.le_refl _)
   have hs := HSH.out wr hbel
   clear hbox hbox0
   go_wp2_with fail
   refine hs.mono ?_
   rintro e w3 ⟨rfl, hb3⟩
   have hfin := bt hbel hb3
   by_cases h2k : 2000 < RES.size
   ·go_wp2_with fail
    go_ret
    exact ⟨rfl, hfin⟩
   ·have hd : decide (2000 < RES.size) = false := decide_eq_false h2k
    go_wp2_with fail
    go_ret
    exact ⟨rfl, hfin⟩
theorem mshow_any (fs : List Fld) (v : Value) (body : ByteArray) (m : Int) (w : World) (hv : FldsAt w v fs) (hgood : ∀ f ∈ fs, Good f) (hlen : fs.length ≤ 30) (hsz : (showF fs).length + body.size ≤ 900000) (hm : w.cell? ⟨6, 0, none⟩ = some (.int .i64 m)) :
    Calls Tryz.prog 41 #[.agg #[v, .string body]] w fun e w' => e = .returned (if 2000 < (showL fs body.data.toList).length then .tuple #[.string ⟨#[]⟩, .int .i64 1] else .tuple #[.string ⟨(showL fs body.data.toList).toArray⟩, .int .i64 0]) ∧ Below w.heap.size w w' := by
 have HV := Lib.hid hv
 have hM := Lib.hid hm
 have HSH : Hid (∀ wr, Below w.heap.size w wr → Calls Tryz.prog 73 #[.agg #[v, .string body]] wr fun e w' => e = .returned (.string ⟨(showL fs body.data.toList).toArray⟩) ∧ Below wr.heap.size wr w') :=
  fun wr hb => show_any fs _ body wr (HV.out.down hb) (by omega)
 have HCH : Hid (∀ wr, Below w.heap.size w wr → Calls Tryz.prog 72 #[.agg #[v, .string body]] wr fun e w' => e = .returned (.int .i64 (if 2000 < (showL fs body.data.toList).length then 1 else 0)) ∧ Below wr.heap.size wr w') :=
  fun wr hb => mcheck_any fs _ body m wr (HV.out.down hb) hgood hlen hsz (moved hM.out hb (Nat.le_refl _))
 obtain ⟨n, hn⟩ : ∃ n, n = (showL fs body.data.toList).length := ⟨_, rfl⟩
 obtain ⟨RES, hRES⟩ : ∃ RES : ByteArray, RES = ⟨(showL fs body.data.toList).toArray⟩ := ⟨_, rfl⟩
 rw [← hRES] at HSH ⊢
 rw [← hn] at HCH ⊢
 have hb0 := ba (Below.refl _ w) (.cells #[v, .string body] 100)
 have hbox := alloc_cell w #[v, .string body] 100 1 (.string body) rfl
 have hbox0 := alloc_cell w #[v, .string body] 100 0 v rfl
 obtain ⟨G, cap, hvv, _⟩ := hv
 subst hvv
 clear hm hRES hn
 by_cases h2k : 2000 < n
 ·rw [if_pos h2k] at HCH ⊢
  go_enter Tryz.func41, Tryz.ntmps41
  go_wp2_with fail
  refine (HCH.out _ hb0).mono ?_
  rintro e w1 ⟨rfl, hb1⟩
  have hw1 := bt hb0 hb1
  go_wp2_with fail
  go_ret2
  exact ⟨rfl, hw1⟩
 ·rw [if_neg h2k] at HCH ⊢
  go_enter Tryz.func41, Tryz.ntmps41
  go_wp2_with fail
  refine (HCH.out _ hb0).mono ?_
  rintro e w1 ⟨rfl, hb1⟩
  have hw1 := bt hb0 hb1
  have p0 := moved hbox0 hb1 (Nat.le_refl _)
  have p1 := moved hbox hb1 (Nat.le_refl _)
  have hs := HSH.out w1 hw1
  clear hbox hbox0
  go_wp2_with fail
  refine hs.mono ?_
  rintro e w2 ⟨rfl, hb2⟩
  have hw2 := bt hw1 hb2
  go_wp2_with fail
  go_ret2
  exact ⟨rfl, hw2⟩
def valB (n i : Nat) (c : UInt8) : UInt8 := if c = 13 ∨ c = 10 ∨ ((c = 32 ∨ c = 9) ∧ (i = 0 ∨ i + 1 = n ∨ i = 39)) then 121 else c
def valU (l : List UInt8) (k : Nat) : List UInt8 := (List.range k).map fun i => valB l.length i (l.getD i 0)
def valueL (l : List UInt8) : List UInt8 := valU l (min l.length 40)
theorem valU_len (l : List UInt8) (k : Nat) : (valU l k).length = k := by simp [valU]
theorem valU_snoc (l : List UInt8) (k : Nat) (h : k < l.length) : valU l (k + 1) = valU l k ++ [valB l.length k l[k]] := by
 unfold valU
 rw [List.range_succ, List.map_append]
 simp [List.getD, List.getElem?_eq_getElem h]
theorem valueL_len (l : List UInt8) : (valueL l).length ≤ 40 := by unfold valueL; rw [valU_len]; omega
theorem valB_ne (n i : Nat) (c : UInt8) : valB n i c ≠ 13 ∧ valB n i c ≠ 10 := by
 unfold valB
 split
 ·exact ⟨by decide, by decide⟩
 ·next h => exact ⟨fun e => h (.inl e), fun e => h (.inr (.inl e))⟩
theorem value_ne (l : List UInt8) : 13 ∉ valueL l := by
 intro h
 obtain ⟨i, _, hi⟩ := List.mem_map.1 h
 exact (valB_ne _ _ _).1 hi
theorem no_crlf : ∀ (l : List UInt8), 13 ∉ l → sepL [13, 10] l = none
 | [], _ => rfl
 | c :: l, h => by
  have hc : ¬ [13, 10].isPrefixOf (c :: l) = true := by
   intro h2
   simp [List.isPrefixOf] at h2
   exact h (by rw [← h2.1]; exact List.mem_cons_self ..)
  rw [sepL, if_neg hc, no_crlf l (fun e => h (List.mem_cons_of_mem _ e))]
  rfl
theorem value_crlf (l : List UInt8) : sepL [13, 10] (valueL l) = none := no_crlf _ (value_ne l)
theorem valB_blank (n i : Nat) (c : UInt8) (h : i = 0 ∨ i + 1 = n ∨ i = 39) : isBlank (valB n i c) = false := by
 unfold valB
 split
 ·rfl
 ·next h2 =>
  unfold isBlank
  rw [Bool.or_eq_false_iff]
  exact ⟨beq_eq_false_iff_ne.2 (fun e => h2 (.inr (.inr ⟨.inl e, h⟩))), beq_eq_false_iff_ne.2 (fun e => h2 (.inr (.inr ⟨.inr e, h⟩)))⟩
theorem blank_cut (c : UInt8) : ([32, 9] : List UInt8).contains c = isBlank c := by
 unfold isBlank
 simp only [List.contains, List.elem]
 cases (c == 32) <;> cases (c == 9) <;> rfl
theorem trim_id (l : List UInt8) (h1 : ∀ c, l.head? = some c → isBlank c = false) (h2 : ∀ c, l.getLast? = some c → isBlank c = false) : trimV l = l := by
 have hr : Lib.trimRightS l [32, 9] = l := by
  unfold Lib.trimRightS
  have : l.reverse.dropWhile ([32, 9].contains ·) = l.reverse := by
   cases hl : l.reverse with
   | nil => rfl
   | cons a b =>
    have ha : isBlank a = false := h2 a (by rw [← List.head?_reverse, hl]; rfl)
    rw [List.dropWhile_cons, blank_cut, ha]; rfl
  rw [this, List.reverse_reverse]
 unfold trimV Lib.trimS
 rw [hr]
 unfold Lib.trimLeftS
 cases l with
 | nil => rfl
 | cons a b =>
  have ha : isBlank a = false := h1 a rfl
  rw [List.dropWhile_cons, blank_cut, ha]; rfl
theorem value_trim (l : List UInt8) : trimV (valueL l) = valueL l := by
 refine trim_id _ ?_ ?_
 ·intro c hc
  unfold valueL valU at hc
  cases hm : min l.length 40 with
  | zero => rw [hm] at hc; cases hc
  | succ k =>
   rw [hm, List.range_succ_eq_map] at hc
   rw [← Option.some.inj hc]
   exact valB_blank _ _ _ (.inl rfl)
 ·intro c hc
  unfold valueL valU at hc
  cases hm : min l.length 40 with
  | zero => rw [hm] at hc; cases hc
  | succ k =>
   rw [hm, List.range_succ, List.map_append] at hc
   rw [List.map_singleton, List.getLast?_append] at hc
   have : some (valB l.length k (l.getD k 0)) = some c := hc
   rw [← Option.some.inj this]
   exact valB_blank _ _ _ (by omega)
theorem val_cases (n k : Nat) (c : UInt8) :
    (valB n k c = 121 ∧ (((c.toNat : Int) == 13) = true ∨ ((c.toNat : Int) == 13) = false ∧ ((c.toNat : Int) == 10) = true ∨
     ((c.toNat : Int) == 13) = false ∧ ((c.toNat : Int) == 10) = false ∧ (((c.toNat : Int) == 32) = true ∨ ((c.toNat : Int) == 32) = false ∧ ((c.toNat : Int) == 9) = true) ∧
      (((k : Int) == 0) = true ∨ ((k : Int) == 0) = false ∧ ((k : Int) == (n : Int) - 1) = true ∨ ((k : Int) == 0) = false ∧ ((k : Int) == (n : Int) - 1) = false ∧ ((k : Int) == 39) = true))) ∨
    (valB n k c = c ∧ ((c.toNat : Int) == 13) = false ∧ ((c.toNat : Int) == 10) = false ∧ ((((c.toNat : Int) == 32) = true ∨ ((c.toNat : Int) == 32) = false ∧ ((c.toNat : Int) == 9) = true) ∧ ((k : Int) == 0) = false ∧ ((k : Int) == (n : Int) - 1) = false ∧ ((k : Int) == 39) = false ∨
     ((c.toNat : Int) == 32) = false ∧ ((c.toNat : Int) == 9) = false)) := by
 have T : ∀ d : UInt8, c = d → ((c.toNat : Int) == (d.toNat : Int)) = true := fun d h => by rw [h]; exact beq_self_eq_true _
 have F : ∀ d : UInt8, c ≠ d → ((c.toNat : Int) == (d.toNat : Int)) = false := fun d h => beq_eq_false_iff_ne.2 (fun e => h (UInt8.toNat_inj.1 (Int.ofNat_inj.1 e)))
 by_cases h13 : c = 13
 ·exact .inl ⟨by unfold valB; rw [if_pos (.inl h13)], .inl (T 13 h13)⟩
 ·by_cases h10 : c = 10
  ·exact .inl ⟨by unfold valB; rw [if_pos (.inr (.inl h10))], .inr (.inl ⟨F 13 h13, T 10 h10⟩)⟩
  ·by_cases hbl : c = 32 ∨ c = 9
   ·have hb : ((c.toNat : Int) == 32) = true ∨ ((c.toNat : Int) == 32) = false ∧ ((c.toNat : Int) == 9) = true := by
     by_cases h32 : c = 32
     ·exact .inl (T 32 h32)
     ·exact .inr ⟨F 32 h32, T 9 (hbl.resolve_left h32)⟩
    by_cases h0 : k = 0
    ·exact .inl ⟨by unfold valB; rw [if_pos (.inr (.inr ⟨hbl, .inl h0⟩))], .inr (.inr ⟨F 13 h13, F 10 h10, hb, .inl (beq_iff_eq.2 (by omega))⟩)⟩
    ·by_cases h1 : k + 1 = n
     ·exact .inl ⟨by unfold valB; rw [if_pos (.inr (.inr ⟨hbl, .inr (.inl h1)⟩))], .inr (.inr ⟨F 13 h13, F 10 h10, hb, .inr (.inl ⟨beq_eq_false_iff_ne.2 (by omega), beq_iff_eq.2 (by omega)⟩)⟩)⟩
     ·by_cases h39 : k = 39
      ·exact .inl ⟨by unfold valB; rw [if_pos (.inr (.inr ⟨hbl, .inr (.inr h39)⟩))], .inr (.inr ⟨F 13 h13, F 10 h10, hb, .inr (.inr ⟨beq_eq_false_iff_ne.2 (by omega), beq_eq_false_iff_ne.2 (by omega), beq_iff_eq.2 (by omega)⟩)⟩)⟩
      ·refine .inr ⟨?_, F 13 h13, F 10 h10, .inl ⟨hb, beq_eq_false_iff_ne.2 (by omega), beq_eq_false_iff_ne.2 (by omega), beq_eq_false_iff_ne.2 (by omega)⟩⟩
       unfold valB
       rw [if_neg]
       rintro (h | h | ⟨_, h | h | h⟩)
       ·exact h13 h
       ·exact h10 h
       ·exact h0 h
       ·exact h1 h
       ·exact h39 h
   ·refine .inr ⟨?_, F 13 h13, F 10 h10, .inr ⟨F 32 (fun e => hbl (.inl e)), F 9 (fun e => hbl (.inr e))⟩⟩
    unfold valB
    rw [if_neg]
    rintro (h | h | ⟨h, _⟩)
    ·exact h13 h
    ·exact h10 h
    ·exact hbl h
theorem value_any (s : ByteArray) (w : World) (hs : s.size ≤ 9223372036854775807) :
    Calls Tryz.prog 71 #[.string s] w fun e w' => e = .returned (.string ⟨(valueL s.data.toList).toArray⟩) ∧ Below w.heap.size w w' := by
 obtain ⟨i0, hi, hz0, hz1, hz2⟩ := info_parts infoU8
 have hI := Lib.hid hi; have hZ0 := Lib.hid hz0; have hZ1 := Lib.hid hz1; have hZ2 := Lib.hid hz2
 have hsl : s.data.toList.length = s.size := by simp
 obtain ⟨l, hl⟩ : ∃ l, l = s.data.toList := ⟨_, rfl⟩
 rw [← hl] at hsl ⊢
 have HSN : Hid (∀ k (h : k < s.size), valU l (k + 1) = valU l k ++ [valB s.size k s[k]]) := by
  intro k h
  subst hl
  exact valU_snoc s.data.toList k (by omega)
 have HSL := Lib.hid hsl
 clear hi hz0 hz1 hz2 hl hsl
 go_enter Tryz.func71, Tryz.ntmps71
 go_wp2
 go_loopw [3, 4] (fun v i wr => ∃ k : Nat, k ≤ s.size ∧ k ≤ 40 ∧ i = .int .i64 k ∧ OwnB wr w.heap.size 5 v (valU l k) ∧ Below w.heap.size w wr) (fun _ i _ => 40 - (intOf i).toNat)
 case atStart => exact ⟨0, Nat.zero_le _, by omega, rfl, World.ownsRow_nil _ _ _ _, Below.refl _ _⟩
 case round =>
  obtain ⟨k, hk, hk8, rfl, hown, hb⟩ := hrel
  have hsz : w.heap.size ≤ wr.heap.size := hb.size
  by_cases hlt : k < s.size ∧ k < 40
  ·obtain ⟨h1, h2⟩ := hlt
   have HT := Lib.hid (HSN.out k h1)
   have hLl : (valU l k).length ≤ 40 := by rw [valU_len]; omega
   obtain ⟨L, hL⟩ : ∃ L, L = valU l k := ⟨_, rfl⟩
   rw [← hL] at hown hLl
   have HL := Lib.hid hL; clear hL
   rcases val_cases s.size k s[k] with ⟨hv, hcs⟩ | ⟨hv, e13, e10, hcs⟩
   ·have HV := Lib.hid hv; clear hv
    rcases hcs with e13 | ⟨e13, e10⟩ | ⟨e13, e10, e32 | ⟨e32, e9⟩, k0 | ⟨k0, k1⟩ | ⟨k0, k1, k39⟩⟩
    all_goals
     go_wp2_with (at_builtin; refine wpList_append_own _ rfl _ _ 134 rfl w.heap.size 5 i0 (.int .u8 0) 1 1 Tryz.underlying134 hI.out hZ0.out hZ1.out hZ2.out rfl (by decide) u3 L.length (bcells L) rfl (hown.alloc _) ⟨wr.heap.size, 0, none⟩ 1 1 [.int .u8 121] rfl rfl (cell_one_new _ _ _) ?c2 ?c3 ?c4 ?c5 ?_)
     case c2 => intro u hu; simp at hu; subst hu; rfl
     case c3 => unfold maxLen; omega
     case c4 => omega
     case c5 => simp; omega
     intro v' w1 hown' hgrow _
     have hb1 := (hb.alloc hsz _).grown hgrow (by simp; omega) (fun k' h => (hown.lt k' h).1)
     have hown1 : OwnB w1 w.heap.size 5 v' (valU l (k + 1)) := by
      unfold OwnB
      rw [HT.out, bcells_append, ← HL.out, List.length_append, HV.out]
      exact hown'
     clear hown' hgrow
     go_wp2
     go_roundw
     case rel => exact ⟨k + 1, by omega, by omega, by go_num, hown1, hb1⟩
     case measure => simp [intOf]; omega
   ·have HV := Lib.hid hv; clear hv
    rcases hcs with ⟨e32 | ⟨e32, e9⟩, k0, k1, k39⟩ | ⟨e32, e9⟩
    all_goals
     go_wp2_with (at_builtin; refine wpList_append_own _ rfl _ _ 134 rfl w.heap.size 5 i0 (.int .u8 0) 1 1 Tryz.underlying134 hI.out hZ0.out hZ1.out hZ2.out rfl (by decide) u3 L.length (bcells L) rfl (hown.alloc _) ⟨wr.heap.size, 0, none⟩ 1 1 [.int .u8 (s[k].toNat : Int)] rfl rfl (cell_one_new _ _ _) ?c2 ?c3 ?c4 ?c5 ?_)
     case c2 => intro u hu; simp at hu; subst hu; rfl
     case c3 => unfold maxLen; omega
     case c4 => omega
     case c5 => simp; omega
     intro v' w1 hown' hgrow _
     have hb1 := (hb.alloc hsz _).grown hgrow (by simp; omega) (fun k' h => (hown.lt k' h).1)
     have hown1 : OwnB w1 w.heap.size 5 v' (valU l (k + 1)) := by
      unfold OwnB
      rw [HT.out, bcells_append, ← HL.out, List.length_append, HV.out]
      exact hown'
     clear hown' hgrow
     go_wp2
     go_roundw
     case rel => exact ⟨k + 1, by omega, by omega, by go_num, hown1, hb1⟩
     case measure => simp [intOf]; omega
  ·have HW : Hid (valueL l = valU l k) := by
    unfold Hid valueL
    have h1 := HSL.out
    congr 1
    omega
   obtain ⟨L, hL⟩ : ∃ L, L = valU l k := ⟨_, rfl⟩
   rw [← hL] at hown
   have HL := Lib.hid hL; clear hL
   have hcv := run_str_own hown Tryz.underlying134 Tryz.underlying5 Tryz.underlying9
   by_cases hks : k < s.size
   ·have hd : decide (k < 40) = false := by simp; omega
    go_wp2
    go_ret
    exact ⟨by rw [HW.out, ← HL.out]; rfl, hb⟩
   ·have hd : decide (k < s.size) = false := by simpa using hks
    go_wp2
    go_ret
    exact ⟨by rw [HW.out, ← HL.out]; rfl, hb⟩
end Go.Proofs.YtpfbkdbblpppdaaGreatDoor
namespace Go.Proofs.YtpfbkdbblpppdaaGreatDoor
open Go Go.Joins Go.Deep Go.ChangeShapes Go.WideShapes
section
variable {H : Type} {enc : TypeId × Value → H} {P : Program} {w : World} {base : Nat} {spare : Nat → Bool} {held : Bool}
def strAt (w : World) (a : Addr) : ByteArray := match w.cell? a with
 | some (.string s) => s
 | _ => ⟨#[]⟩
def StrRows (w : World) (a : Option Addr) (len k : Nat) (x : Nat → Nat → ByteArray) : Prop :=
 ∀ i, i < len → ∃ b off, a = some ⟨b, off, none⟩ ∧ b < w.heap.size ∧ ∀ j, j < k → w.cell? ⟨b, off + (i * k + j), none⟩ = some (.string (x i j)) ∧ (x i j).size ≤ maxLen
theorem str_cells {e ts : TypeId} {fs : Array Field} {fuel : Nat} {cs : List Value} {x : DataW H × List MemPlace} (he : P.underlying e = some (.struct fs)) (hone : oneCellFields P fs = true)
    (hstr : P.underlying ts = some .string) (hall : ∀ (j : Nat) (f : Field), fs[j]? = some f → f.type = ts) (hcl : cs.length = fs.size) (h : DataW.trod enc P w base spare held fuel e cs = some x) (j : Nat) (hj : j < fs.size) :
    ∃ s : ByteArray, cs[j]? = some (.string s) ∧ s.size ≤ maxLen := by
 obtain ⟨ys, n, _, _, _, hyl, hf⟩ := DataW.trod_struct he h
 have hfj : fs[j]? = some fs[j] := Array.getElem?_eq_getElem hj
 obtain ⟨ho, hk⟩ := hone_of hone j _ hfj
 have h1 := hf j _ hfj
 rw [ho, hk, List.drop_eq_getElem_cons (by omega : j < cs.length), hall j _ hfj, List.getElem?_eq_getElem (by omega : j < ys.length)] at h1
 obtain ⟨s, hs, hz⟩ := str_of_trod hstr (show DataW.trod enc P w base spare held n ts [cs[j]'(by omega)] = _ from h1)
 exact ⟨s, by rw [List.getElem?_eq_getElem (by omega : j < cs.length), hs], hz⟩
theorem rows_open {t e ts : TypeId} {fs : Array Field} {a : Option Addr} {len cap : Nat} {d : DataW H} {p : List MemPlace} (ht : P.underlying t = some (.slice e)) (he : P.underlying e = some (.struct fs)) (hone : oneCellFields P fs = true) (hC : P.cellsOf e = fs.size)
    (hpos : 0 < fs.size) (hstr : P.underlying ts = some .string) (hall : ∀ (j : Nat) (f : Field), fs[j]? = some f → f.type = ts) (h : DataW.Trod enc P w base spare held t (.slice a len cap) d p) : ∃ x, StrRows w a len fs.size x ∧ len ≤ maxLen := by
 obtain ⟨fuel, hf⟩ := h
 rcases open_slice ht hf with ⟨hcs, _⟩ | ⟨x, l, c, m, n, D, Pl, hcs, hb, hl, hm, hmm, hx, hi⟩
 ·simp [Value.cells] at hcs
  obtain ⟨rfl, rfl, rfl⟩ := hcs
  exact ⟨fun _ _ => ⟨#[]⟩, fun i hi => absurd hi (Nat.not_lt_zero i), Nat.zero_le _⟩
 ·simp [Value.cells] at hcs
  obtain ⟨rfl, rfl, rfl⟩ := hcs
  have hlm : len ≤ m := by rw [hmm]; split <;> omega
  have hat : ∀ i j, i < len → j < fs.size → w.cell? (x.add (i * fs.size + j)) = some (.string (strAt w (x.add (i * fs.size + j)))) ∧ (strAt w (x.add (i * fs.size + j))).size ≤ maxLen := by
   intro i j h1 h2
   obtain ⟨cs', hc, ht'⟩ := hi i (by omega)
   rw [hC] at hc
   obtain ⟨_, hcl, hcat⟩ := World.cells?_some hc
   obtain ⟨s, hs, hz⟩ := str_cells he hone hstr hall (by omega) ht' j h2
   have hcell := hcat j h2
   rw [hs, Go.Deep.add_add] at hcell
   have : strAt w (x.add (i * fs.size + j)) = s := by unfold strAt; rw [hcell]
   rw [this]
   exact ⟨hcell, hz⟩
  obtain ⟨b, off, spot⟩ := x
  refine ⟨fun i j => strAt w (Addr.add ⟨b, off, spot⟩ (i * fs.size + j)), fun i h1 => ?_, Nat.le_trans hl hm⟩
  have h00 := (hat 0 0 (by omega) hpos).1
  rw [Nat.zero_mul] at h00
  have hspot : spot = none := by simpa [Addr.add] using World.cell?_spot h00
  subst hspot
  refine ⟨b, off, rfl, World.block_lt_of_cell? w ⟨b, off, none⟩ (by simpa [Addr.add] using h00), fun j hj => ?_⟩
  have := hat i j h1 hj
  rw [Addr.add_lit] at this
  show w.cell? ⟨b, off + (i * fs.size + j), none⟩ = some (.string (strAt w (Addr.add ⟨b, off, none⟩ (i * fs.size + j)))) ∧ (strAt w (Addr.add ⟨b, off, none⟩ (i * fs.size + j))).size ≤ maxLen
  rw [Addr.add_lit]
  exact this
end
end Go.Proofs.YtpfbkdbblpppdaaGreatDoor
namespace Go.Proofs.YtpfbkdbblpppdaaGreatDoor
open Go.RowKit
theorem infoFld' : (Tryz.prog.info? 104).map (fun i => (i.zero, i.size, i.bytes)) = some (some (.agg #[.string ⟨#[]⟩, .string ⟨#[]⟩]), 2, 32) := by kernel_rfl
theorem extract_take (s : ByteArray) (n : Nat) : s.extract 0 n = ⟨(s.data.toList.take n).toArray⟩ := by
 rw [Lib.extract_eq]; simp
theorem clip_any (s : ByteArray) (m : Int) (w : World) (_hs : s.size ≤ 9223372036854775807) (h0 : 0 ≤ m) (h1 : m ≤ 9223372036854775807) :
    Calls Tryz.prog 40 #[.string s, .int .i64 m] w fun e w' => e = .returned (.string ⟨(s.data.toList.take m.toNat).toArray⟩) ∧ w = w' := by
 obtain ⟨n, rfl⟩ := Int.eq_ofNat_of_zero_le h0
 rw [Int.toNat_natCast]
 have H : Hid (s.extract 0 (min (s.size : Int) (n : Int)).toNat = ⟨(s.data.toList.take n).toArray⟩) := by
  unfold Hid
  rw [extract_take]
  by_cases h : n < s.size
  ·rw [show (min (s.size : Int) (n : Int)).toNat = n by omega]
  ·rw [show (min (s.size : Int) (n : Int)).toNat = s.size by omega, List.take_of_length_le (by simp), List.take_of_length_le (by simp; omega)]
 go_enter Tryz.func40, Tryz.ntmps40
 go_wp2
 go_ret
 exact ⟨congrArg (fun b => Ending.returned (Value.string b)) H.out, rfl⟩
theorem res_set2' {w wr : World} {R : Nat} {a c : Value} (hbel : Below w.heap.size w wr) (hR : w.heap.size ≤ R) (z0 : wr.cell? ⟨R, 0, none⟩ = some a) (z1 : wr.cell? ⟨R, 1, none⟩ = some c) (v c' : Value) :
    ((wr.setCell ⟨R, 0, none⟩ v).setCell ⟨R, 1, none⟩ c').cell? ⟨R, 0, none⟩ = some v ∧ ((wr.setCell ⟨R, 0, none⟩ v).setCell ⟨R, 1, none⟩ c').cell? ⟨R, 1, none⟩ = some c' ∧ Below w.heap.size w ((wr.setCell ⟨R, 0, none⟩ v).setCell ⟨R, 1, none⟩ c') := by
 have n1 : (⟨R, 0, none⟩ : Addr) ≠ ⟨R, 1, none⟩ := by simp
 have n2 : (⟨R, 1, none⟩ : Addr) ≠ ⟨R, 0, none⟩ := Ne.symm n1
 refine ⟨(World.cell?_setCell_other _ _ _ _ n2).trans (World.cell?_setCell_same _ _ _ z0), World.cell?_setCell_same _ _ _ ((World.cell?_setCell_other _ _ _ _ n1).trans z1), (hbel.setCell (by show w.heap.size ≤ R; exact hR) v).setCell (by show w.heap.size ≤ R; exact hR) c'⟩
def msgF (x : Nat → Nat → ByteArray) (i : Nat) : Fld := (wordL (x i 0).data.toList, valueL (x i 1).data.toList)
def msgL (x : Nat → Nat → ByteArray) (k : Nat) : List Fld := (List.range k).map (msgF x)
theorem msgL_len (x : Nat → Nat → ByteArray) (k : Nat) : (msgL x k).length = k := by simp [msgL]
theorem msgL_snoc (x : Nat → Nat → ByteArray) (k : Nat) : msgL x (k + 1) = msgL x k ++ [msgF x k] := by unfold msgL; rw [List.range_succ, List.map_append]; rfl
theorem message_any (a : Option Addr) (len cap : Nat) (x : Nat → Nat → ByteArray) (body : ByteArray) (w : World) (hx : StrRows w a len 2 x) (hlen : len ≤ maxLen) (hbody : body.size ≤ maxLen) :
    Calls Tryz.prog 39 #[.slice a len cap, .string body] w fun e w' => (∃ v, e = .returned (.agg #[v, .string ⟨(body.data.toList.take 200).toArray⟩]) ∧ w'.ownsRow w.heap.size 104 2 v (min len 6) (fcells (msgL x (min len 6)))) ∧ Below w.heap.size w w' := by
 obtain ⟨R, hR⟩ : ∃ R, R = w.heap.size := ⟨_, rfl⟩
 have HWd : Hid (∀ (s : ByteArray) (w : World), s.size ≤ maxLen → Calls Tryz.prog 32 #[.string s] w fun e w' => e = .returned (.string ⟨(wordL s.data.toList).toArray⟩) ∧ Below w.heap.size w w') := fun s w h => word_any s w (Nat.le_trans h (by decide))
 have HVl : Hid (∀ (s : ByteArray) (w : World), s.size ≤ maxLen → Calls Tryz.prog 71 #[.string s] w fun e w' => e = .returned (.string ⟨(valueL s.data.toList).toArray⟩) ∧ Below w.heap.size w w') := fun s w h => value_any s w (Nat.le_trans h (by decide))
 have HCt : Hid (∀ w : World, Calls Tryz.prog 40 #[.string body, .int .i64 200] w fun e w' => e = .returned (.string ⟨(body.data.toList.take 200).toArray⟩) ∧ w = w') := fun w => clip_any body 200 w (Nat.le_trans hbody (by decide)) (by decide) (by decide)
 obtain ⟨BD, hBD⟩ : ∃ BD : ByteArray, BD = ⟨(body.data.toList.take 200).toArray⟩ := ⟨_, rfl⟩
 rw [← hBD] at HCt ⊢
 have HX := Lib.hid hx
 obtain ⟨i0, hi, hz0, hz1, hz2⟩ := info_parts infoFld'
 have HI := Lib.hid hi; have HZ0 := Lib.hid hz0; have HZ1 := Lib.hid hz1; have HZ2 := Lib.hid hz2
 clear hi hz0 hz1 hz2 hBD hx
 have hp0 : Pair (w.alloc (.cells #[.slice none 0 0, .string ⟨#[]⟩] 100)) R (.slice none 0 0) (.string ⟨#[]⟩) := by rw [hR]; exact Pair.alloc w _ _ _
 have hz0 : (w.alloc (.cells #[.slice none 0 0, .string ⟨#[]⟩] 100)).heap.size = R + 1 := by rw [hR]; simp
 have hp1 := Pair.alloc (w.alloc (.cells #[.slice none 0 0, .string ⟨#[]⟩] 100)) (.slice none 0 0) (.string ⟨#[]⟩) 100
 rw [hz0] at hp1
 have hp0' := hp0.below (ba (Below.refl _ (w.alloc (.cells #[.slice none 0 0, .string ⟨#[]⟩] 100))) (.cells #[.slice none 0 0, .string ⟨#[]⟩] 100)) (by omega)
 have hb0 := ba (ba (Below.refl _ w) (.cells #[.slice none 0 0, .string ⟨#[]⟩] 100)) (.cells #[.slice none 0 0, .string ⟨#[]⟩] 100)
 have hz1 : ((w.alloc (.cells #[.slice none 0 0, .string ⟨#[]⟩] 100)).alloc (.cells #[.slice none 0 0, .string ⟨#[]⟩] 100)).heap.size = R + 2 := by rw [hR]; simp
 obtain ⟨W0, hW0⟩ : ∃ W0, W0 = (w.alloc (.cells #[.slice none 0 0, .string ⟨#[]⟩] 100)).alloc (.cells #[.slice none 0 0, .string ⟨#[]⟩] 100) := ⟨_, rfl⟩
 rw [← hW0] at hp1 hp0' hb0 hz1
 have HW0 := Lib.hid hW0.symm
 have HR := Lib.hid hR
 have hL63 : len ≤ 9223372036854775807 := Nat.le_trans hlen (by decide)
 clear hp0 hz0 hW0 hR
 go_enter Tryz.func39, Tryz.ntmps39
 go_wp2_with fail
 rw [HW0.out, ← HR.out]
 go_loopw [6] (fun i wr => ∃ (k : Nat) (V : Value), k ≤ len ∧ k ≤ 6 ∧ i = .int .i64 k ∧ Pair wr R (.slice none 0 0) (.string ⟨#[]⟩) ∧ Pair wr (R + 1) V (.string ⟨#[]⟩) ∧ wr.ownsRow (R + 2) 104 2 V k (fcells (msgL x k)) ∧ Below w.heap.size w wr ∧ R + 2 ≤ wr.heap.size) (fun i _ => 6 - (intOf i).toNat)
 case atStart => exact ⟨0, _, Nat.zero_le _, by omega, rfl, hp0', hp1, World.ownsRow_nil _ _ _ _, hb0, by omega⟩
 case round =>
  obtain ⟨k, V, hk, hk6, rfl, hq0, hq1, hown, hbel, hsz⟩ := hrel
  clear hp0' hp1 hb0 hz1
  by_cases hlt : k < len ∧ k < 6
  ·obtain ⟨h1, h2⟩ := hlt
   obtain ⟨b, off, hab, hbl, hxs⟩ := HX.out k h1
   obtain ⟨n0, ns0⟩ := hxs 0 (by omega)
   obtain ⟨n1, ns1⟩ := hxs 1 (by omega)
   obtain ⟨N, hN⟩ : ∃ N, N = x k 0 := ⟨_, rfl⟩
   obtain ⟨M, hM⟩ : ∃ M, M = x k 1 := ⟨_, rfl⟩
   rw [← hN] at n0 ns0
   rw [← hM] at n1 ns1
   have hsn : Hid (fcells (msgL x (k + 1)) = fcells (msgL x k) ++ [.string ⟨(wordL N.data.toList).toArray⟩, .string ⟨(valueL M.data.toList).toArray⟩]) := by
    unfold Hid; rw [msgL_snoc, fcells_snoc, hN, hM]; rfl
   clear hN hM hxs
   subst hab
   have hFW : Hid (∀ w', Below wr.heap.size wr w' → Pair w' R (.slice none 0 0) (.string ⟨#[]⟩) ∧ Pair w' (R + 1) V (.string ⟨#[]⟩) ∧ w'.ownsRow (R + 2) 104 2 V k (fcells (msgL x k)) ∧ Below w.heap.size w w' ∧ R + 2 ≤ w'.heap.size ∧
       w'.cell? ⟨b, off + k * 2, none⟩ = some (.string N) ∧ w'.cell? ⟨b, off + k * 2 + 1, none⟩ = some (.string M) ∧ w'.cell? ⟨R + 1, 0, none⟩ = some V) := by
    intro w' hb
    have hbw := bt hbel hb
    exact ⟨hq0.below hb hq0.2.2.2.2, hq1.below hb hq1.2.2.2.2, row_down hown hb, hbw, Nat.le_trans hsz hb.size, moved (by rw [← Nat.add_zero (off + k * 2), Nat.add_assoc]; exact n0) hbw (Nat.le_refl _), moved (by rw [Nat.add_assoc]; exact n1) hbw (Nat.le_refl _), (hq1.below hb hq1.2.2.2.2).1⟩
   have hVs := row_apart hown (show R + 1 < R + 2 by omega)
   have hcl := fcells_length (msgL x k)
   rw [msgL_len] at hcl
   have hbd := Below.drew (Below.refl wr.heap.size wr)
   obtain ⟨z0, z1, zo, zb, zs, m0, m1, mv⟩ := hFW.out wr.drew hbd
   clear n0 n1 hq0 hq1 hown hbel hsz hbl
   go_wp2_with fail
   go_region_law (first
    | (refine step_append_lies _ (by rfl) _ _ _ (by rfl) (R + 2) 104 i0 _ 2 32 Tryz.underlying98 HI.out HZ0.out HZ1.out HZ2.out rfl (by omega) V k (fcells (msgL x k)) (by rfl) (zo.alloc _)
        ⟨w1.heap.size, 0, none⟩ 1 1 [.string ⟨(wordL N.data.toList).toArray⟩, .string ⟨(valueL M.data.toList).toArray⟩] (by rfl) (by rfl) (World.news_of_block (cs := #[.string ⟨(wordL N.data.toList).toArray⟩, .string ⟨(valueL M.data.toList).toArray⟩]) (t := 104) (fr := (0, 0)) (heap_alloc_new w1 _)) (by simp [Value.oneCell'])
        (by omega) (by unfold maxLen; omega) (by omega) (by simp; omega) (w1.heap.size + 1) (by simp) ?_
       intro g cap2 w3 hown3 hgrow hat hlt3
       have ap := ba (Below.refl _ w1) (.cells #[.string ⟨(wordL N.data.toList).toArray⟩, .string ⟨(valueL M.data.toList).toArray⟩] 104)
       have k1 := (z1.below ap z1.2.2.2.2).kept hgrow hVs
       have a0 := k1.1
       have b0 := k1.2.2.1)
    | (go_simp
       go_at_call 32
       refine (HWd.out _ _ ns0).mono ?_
       rintro e w1 ⟨rfl, hb1⟩
       replace hbd := bt hbd hb1
       obtain ⟨z0, z1, zo, zb, zs, m0, m1, mv⟩ := hFW.out w1 hbd)
    | (go_simp
       go_at_call 71
       refine (HVl.out _ _ ns1).mono ?_
       rintro e w1 ⟨rfl, hb1⟩
       replace hbd := bt hbd hb1
       obtain ⟨z0, z1, zo, zb, zs, m0, m1, mv⟩ := hFW.out w1 hbd
       have mv2 := moved mv (ba (Below.refl _ w1) (.cells #[.string ⟨(wordL N.data.toList).toArray⟩, .string ⟨(valueL M.data.toList).toArray⟩] 104)) (Nat.le_refl _)))
   all_goals
    have k0 := (z0.below ap z0.2.2.2.2).kept hgrow (row_apart zo (by omega))
    have l1 := k1.set0 (.slice (some ⟨g, 0, none⟩) (k + 1) cap2)
    have l0 := k0.else0 (show R ≠ R + 1 by omega) (i := 0) (.slice (some ⟨g, 0, none⟩) (k + 1) cap2)
    rw [← hsn.out] at hown3
    have lo := row_else hown3 (show R + 1 < R + 2 by omega) 0 (.slice (some ⟨g, 0, none⟩) (k + 1) cap2)
    have lb := (below_row (ba zb (.cells #[.string ⟨(wordL N.data.toList).toArray⟩, .string ⟨(valueL M.data.toList).toArray⟩] 104)) (Nat.le_refl _) (zo.alloc (.cells #[.string ⟨(wordL N.data.toList).toArray⟩, .string ⟨(valueL M.data.toList).toArray⟩] 104)) (by have := HR.out; omega) hgrow).setCell (p := ⟨R + 1, 0, none⟩) (by show w.heap.size ≤ R + 1; have := HR.out; omega) (.slice (some ⟨g, 0, none⟩) (k + 1) cap2)
    have ls : R + 2 ≤ (w3.setCell ⟨R + 1, 0, none⟩ (.slice (some ⟨g, 0, none⟩) (k + 1) cap2)).heap.size := by
     have h1 := hgrow.size
     have h2 := ap.size
     have h3 : (w3.setCell ⟨R + 1, 0, none⟩ (.slice (some ⟨g, 0, none⟩) (k + 1) cap2)).heap.size = w3.heap.size := by simp [World.setCell]
     omega
    obtain ⟨w5, hw5⟩ : ∃ w5, w5 = w3.setCell ⟨R + 1, 0, none⟩ (.slice (some ⟨g, 0, none⟩) (k + 1) cap2) := ⟨_, rfl⟩
    rw [← hw5] at l0 l1 lo lb ls ⊢
    clear hw5 hown3 hgrow hat hlt3 a0 b0 k0 k1 ap z0 z1 zo zb zs m0 m1 mv mv2 hbd hb1
    go_wp2_with fail
    go_roundw
    case rel => exact ⟨k + 1, _, by omega, by omega, by go_num, l0, l1, lo, lb, ls⟩
    case measure => simp [intOf]; omega
  ·have hkm := Lib.hid (show min len 6 = k by omega)
   obtain ⟨G, cp, rfl⟩ : ∃ G cp, V = .slice G k cp := by
    rcases hown.2 with ⟨h, h0⟩ | ⟨g, cp, _, h, _⟩
    ·exact ⟨none, 0, by rw [h, h0]⟩
    ·exact ⟨_, cp, h⟩
   have l1 := hq1.set1 (.string BD)
   have l0 := hq0.else0 (show R ≠ R + 1 by omega) (i := 1) (.string BD)
   have lo := row_else hown (show R + 1 < R + 2 by omega) 1 (.string BD)
   have lb := hbel.setCell (p := ⟨R + 1, 1, none⟩) (by show w.heap.size ≤ R + 1; have := HR.out; omega) (.string BD)
   obtain ⟨x0, x1, y0, y1, hx1⟩ := hq1
   obtain ⟨d0, d1, f0, f1, hd1⟩ := l0
   obtain ⟨c0, c1, g0, g1, hc1⟩ := l1
   obtain ⟨e0, e1, hbF⟩ := res_set2' lb (by have := HR.out; omega) d0 d1 (.slice G k cp) (.string BD)
   have hownF := row_else (row_else lo (show R < R + 2 by omega) 0 (.slice G k cp)) (show R < R + 2 by omega) 1 (.string BD)
   have hb2 := HCt.out wr
   have hdec : decide (k < 6) = false ∧ k < len ∨ decide (k < len) = false := by
    by_cases h : k < len
    ·exact .inl ⟨decide_eq_false (by omega), h⟩
    ·exact .inr (decide_eq_false h)
   rcases hdec with ⟨q1, q2⟩ | q1
   all_goals
    go_wp2_with fail
    refine hb2.mono ?_
    rintro e w2 ⟨rfl, rfl⟩
    go_wp2_with fail
    refine bodyPost_ret (v := .agg #[.slice G k cp, .string BD]) (by simp [results, Tryz.results39, go_sem, e0, e1]) rfl ?_
    rw [hkm.out]
    exact ⟨⟨_, rfl, row_base (by have := HR.out; omega) hownF⟩, hbF⟩
theorem atom_name (c : UInt8) : nameC (lowB c) = true := by
 have h : ∀ n : Nat, n < 26 → nameC (97 + UInt8.ofNat n) = true := by decide +kernel
 have := h (c.toNat % 26) (Nat.mod_lt _ (by decide))
 have e : lowB c = 97 + UInt8.ofNat (c.toNat % 26) := by
  unfold lowB
  congr 1
  apply UInt8.toNat_inj.1
  rw [UInt8.toNat_mod]
  have : c.toNat % 26 < 26 := Nat.mod_lt _ (by decide)
  show c.toNat % 26 = (c.toNat % 26) % 256
  omega
 rw [e]; exact this
theorem word_name (l : List UInt8) : nameOK (wordL l) = true := by
 rw [nameOK_eq]
 have hne := word_ne l
 have h1 : (wordL l).all nameC = true := by
  unfold wordL
  split
  ·decide
  ·rw [List.all_map]
   exact List.all_eq_true.2 fun c _ => atom_name c
 rw [h1]
 cases hw : wordL l with
 | nil => exact absurd hw hne
 | cons a b => rfl
theorem msg_good (x : Nat → Nat → ByteArray) (k : Nat) : ∀ f ∈ msgL x k, Good f := by
 intro f hf
 obtain ⟨i, _, rfl⟩ := List.mem_map.1 hf
 exact ⟨word_name _, value_crlf _, value_trim _⟩
theorem showL_len (fs : List Fld) (b : List UInt8) : (showL fs b).length = (showF fs).length + 2 + b.length := by
 unfold showL; simp only [List.length_append, List.length_cons, List.length_nil]
theorem show_walk (fs : List Fld) (v : Value) (body RES : ByteArray) (m : Int) (w : World) (hR : RES = ⟨(showL fs body.data.toList).toArray⟩) (hv : FldsAt w v fs) (hgood : ∀ f ∈ fs, Good f) (hlen : fs.length ≤ 30) (hsz : (showF fs).length + 2 + body.size ≤ 2000) (hm : w.cell? ⟨6, 0, none⟩ = some (.int .i64 m)) :
    Calls Tryz.prog 41 #[.agg #[v, .string body]] w fun e w' => e = .returned (.tuple #[.string RES, .int .i64 0]) ∧ Below w.heap.size w w' := by
 have h := mshow_any fs v body m w hv hgood hlen (by omega) hm
 have hl : ¬ 2000 < (showL fs body.data.toList).length := by rw [showL_len]; have : body.data.toList.length = body.size := by simp
                                                             omega
 rw [if_neg hl, ← hR] at h
 exact h
theorem take_size (body BD : ByteArray) (k : Nat) (hBD : BD = ⟨(body.data.toList.take k).toArray⟩) : BD.size ≤ k := by
 rw [hBD]
 show (List.toArray _).size ≤ k
 rw [List.size_toArray, List.length_take]
 omega
def letN (n : Nat) : List UInt8 := match n % 5 with
 | 0 => [83, 117, 98, 106, 101, 99, 116]
 | 1 => [116, 111]
 | 2 => [70, 114, 111, 109]
 | 3 => [99, 99]
 | _ => [88]
def annL : List UInt8 := [65, 110, 110, 32, 60, 97, 110, 110, 64, 120, 46, 121, 62, 44, 32, 98, 64, 99]
def letF (f : Fld) : Fld := (letN f.2.length, if f.2.length % 5 = 1 ∧ f.2.length % 2 = 1 then annL else f.2)
def ltrFs (x : Nat → Nat → ByteArray) (len : Nat) : List Fld := (msgL x (min len 6)).map letF
def ltrT (x : Nat → Nat → ByteArray) (len : Nat) (body : List UInt8) : List UInt8 := showL (ltrFs x len) (body.take 100)
theorem letN_ok (n : Nat) : nameOK (letN n) = true ∧ (letN n).length ≤ 7 := by
 unfold letN; split <;> exact ⟨by decide, by decide⟩
theorem letF_good {f : Fld} (h : Good f) : Good (letF f) := by
 refine ⟨(letN_ok _).1, ?_, ?_⟩
 ·show sepL [13, 10] (if _ then annL else f.2) = none
  split
  ·decide
  ·exact h.2.1
 ·show trimV (if _ then annL else f.2) = (if _ then annL else f.2)
  split
  ·decide
  ·exact h.2.2
theorem msg_val (x : Nat → Nat → ByteArray) (k : Nat) : ∀ f ∈ msgL x k, f.2.length ≤ 40 := by
 intro f hf
 obtain ⟨i, _, rfl⟩ := List.mem_map.1 hf
 exact valueL_len _
theorem letF_len {f : Fld} (h : f.2.length ≤ 40) : (fieldL (letF f)).length ≤ 51 := by
 have h1 := (letN_ok f.2.length).2
 have h2 : (letF f).2.length ≤ 40 := by
  show (if _ then annL else f.2).length ≤ 40
  split
  ·decide
  ·exact h
 have h3 : (fieldL (letF f)).length = (letN f.2.length).length + (letF f).2.length + 4 := by
  unfold fieldL
  simp only [List.length_append, List.length_cons, List.length_nil]
  show (letN f.2.length).length + (0 + 1 + 1) + (letF f).2.length + (0 + 1 + 1) = _
  omega
 omega
theorem ltrFs_good (x : Nat → Nat → ByteArray) (len : Nat) : ∀ f ∈ ltrFs x len, Good f := by
 intro f hf
 obtain ⟨g, hg, rfl⟩ := List.mem_map.1 hf
 exact letF_good (msg_good x _ g hg)
theorem ltrFs_len (x : Nat → Nat → ByteArray) (len : Nat) : (ltrFs x len).length = min len 6 := by unfold ltrFs; rw [List.length_map, msgL_len]
theorem showF_map_le (l : List Fld) (h : ∀ f ∈ l, f.2.length ≤ 40) : (showF (l.map letF)).length ≤ 51 * l.length := by
 induction l with
 | nil => exact Nat.le_refl _
 | cons f l ih =>
  have h1 := letF_len (h f (List.mem_cons_self ..))
  have h2 := ih (fun g hg => h g (List.mem_cons_of_mem _ hg))
  show (fieldL (letF f) ++ showF (l.map letF)).length ≤ _
  rw [List.length_append, List.length_cons]; omega
theorem ltrFs_size (x : Nat → Nat → ByteArray) (len : Nat) : (showF (ltrFs x len)).length ≤ 306 := by
 have h := showF_map_le (msgL x (min len 6)) (msg_val x _)
 rw [msgL_len] at h
 unfold ltrFs
 omega
theorem ltrT_len (x : Nat → Nat → ByteArray) (len : Nat) (body : List UInt8) : 2 ≤ (ltrT x len body).length ∧ (ltrT x len body).length ≤ 408 := by
 have h := ltrFs_size x len
 unfold ltrT
 rw [showL_len, List.length_take]
 omega
def ltrJ (fs : List Fld) (j : Nat) : List Fld := (fs.take j).map letF ++ fs.drop j
theorem ltrJ_len (fs : List Fld) (j : Nat) : (ltrJ fs j).length = fs.length := by
 unfold ltrJ
 rw [List.length_append, List.length_map, List.length_take, List.length_drop]; omega
theorem ltrJ_at {fs : List Fld} {j : Nat} (h : j < fs.length) : (ltrJ fs j)[j]? = some fs[j] := by
 unfold ltrJ
 rw [List.getElem?_append_right (by rw [List.length_map, List.length_take]; omega), List.length_map, List.length_take, Nat.min_eq_left (by omega), Nat.sub_self, List.getElem?_drop, Nat.add_zero, List.getElem?_eq_getElem h]
theorem ltrJ_next {fs : List Fld} {j : Nat} (h : j < fs.length) : (ltrJ fs j).set j (letF fs[j]) = ltrJ fs (j + 1) := by
 unfold ltrJ
 rw [List.set_append_right _ _ (by rw [List.length_map, List.length_take]; omega), List.length_map, List.length_take, Nat.min_eq_left (by omega), Nat.sub_self, List.drop_eq_getElem_cons h, List.set_cons_zero, List.take_succ_eq_append_getElem h, List.map_append, List.append_assoc]
 rfl
theorem fcells_name : ∀ (i : Nat) (l : List Fld) (f : Fld) (a : List UInt8), l[i]? = some f → fcells (l.set i (a, f.2)) = (fcells l).set (i * 2) (.string ⟨a.toArray⟩)
 | 0, f :: l, _, a, h => by obtain rfl := Option.some.inj h; rfl
 | i + 1, g :: l, f, a, h => by
  have := fcells_name i l f a (by simpa using h)
  rw [List.set_cons_succ, fcells_cons, fcells_cons, this, show (i + 1) * 2 = (i * 2) + 1 + 1 by omega]
  rfl
theorem fcells_val : ∀ (i : Nat) (l : List Fld) (f : Fld) (b : List UInt8), l[i]? = some f → fcells (l.set i (f.1, b)) = (fcells l).set (i * 2 + 1) (.string ⟨b.toArray⟩)
 | 0, f :: l, _, b, h => by obtain rfl := Option.some.inj h; rfl
 | i + 1, g :: l, f, b, h => by
  have := fcells_val i l f b (by simpa using h)
  rw [List.set_cons_succ, fcells_cons, fcells_cons, this, show (i + 1) * 2 + 1 = (i * 2 + 1) + 1 + 1 by omega]
  rfl
theorem mvd {B : Nat} {w w' : World} {b o : Nat} {v : Value} (h : w.cell? ⟨b, o, none⟩ = some v) (hb : Below B w.drew w') (hB : w.drew.heap.size ≤ B) : w'.cell? ⟨b, o, none⟩ = some v := moved (w := w.drew) h hb hB
theorem cal {w : World} {a : Addr} {v : Value} (o : Obj) (h : w.cell? a = some v) : (w.alloc o).cell? a = some v := (World.cell?_alloc_lt _ _ _ (World.block_lt_of_cell? w a h)).trans h
theorem bgr {B : Nat} {w wr w1 : World} {b : Nat} (hb : Below B w wr) (g : wr.grownBy w1 (some b)) (hB : B ≤ wr.heap.size) (hR : B ≤ b) : Below B w w1 :=
 ⟨g.os.trans hb.os, g.tape.trans hb.tape, g.output.trans hb.output, Nat.le_trans hb.size g.size, fun k hk => (g.block k (Nat.lt_of_lt_of_le hk hB) (by intro e; have := Option.some.inj e; omega)).trans (hb.block k hk)⟩
theorem picked_nat (n : Nat) (w : World) (h : n ≤ 1000000) : Calls Tryz.prog 15 #[.int .i64 n, .int .i64 5] w fun e w' => e = .returned (.int .i64 ((n % 5 : Nat) : Int)) ∧ w = w' := by
 have h1 := picked_any n 5 w (by omega) (by omega) (by omega) (by omega)
 have h2 : pick n 5 = n % 5 := by unfold pick; rw [if_neg (by omega)]; omega
 rw [h2] at h1; exact h1
def MsgNew (fs : List Fld) (bd : ByteArray) (B0 : Nat) (W0 : World) (p : Value) (wx : World) : Prop :=
 ∃ M V, p = .pointer (some ⟨M, 0, none⟩) ∧ Pair wx M V (.string bd) ∧ wx.ownsRow B0 104 2 V fs.length (fcells fs) ∧ V.ownBlock ≠ some M ∧ W0.heap.size ≤ M ∧ Below W0.heap.size W0 wx
def letNames : List Value := [.string ⟨#[83, 117, 98, 106, 101, 99, 116]⟩, .string ⟨#[116, 111]⟩, .string ⟨#[70, 114, 111, 109]⟩, .string ⟨#[99, 99]⟩, .string ⟨#[88]⟩]
theorem letNames_at (n : Nat) : letNames[n % 5]? = some (.string ⟨(letN n).toArray⟩) := by
 have h : n % 5 < 5 := Nat.mod_lt _ (by decide)
 unfold letN
 match n % 5, h with
 | 0, _ => rfl
 | 1, _ => rfl
 | 2, _ => rfl
 | 3, _ => rfl
 | 4, _ => rfl
def PR (w : World) (P R : Nat) (a0 a1 a2 b0 b1 b2 : ByteArray) (v : Value) (bo : ByteArray) : Prop :=
 Has w P [.string a0, .string a1, .string a2, .string b0, .string b1, .string b2, v, .string bo] ∧ Has w R [.string ⟨#[]⟩, .string ⟨#[]⟩, .string ⟨#[]⟩, .string ⟨#[]⟩, .string ⟨#[]⟩]
theorem PR.down {w w' : World} {P R : Nat} {a0 a1 a2 b0 b1 b2 bo : ByteArray} {v : Value} (h : PR w P R a0 a1 a2 b0 b1 b2 v bo) (hb : Below w.heap.size w w') : PR w' P R a0 a1 a2 b0 b1 b2 v bo := ⟨h.1.down hb, h.2.down hb⟩
theorem Has.five {w : World} {b : Nat} {a0 a1 a2 a3 a4 : Value} (h : Has w b [a0, a1, a2, a3, a4]) : (w.cell? ⟨b, 0, none⟩ = some a0 ∧ w.cell? ⟨b, 1, none⟩ = some a1 ∧ w.cell? ⟨b, 2, none⟩ = some a2 ∧ w.cell? ⟨b, 3, none⟩ = some a3 ∧ w.cell? ⟨b, 4, none⟩ = some a4) ∧ (w.frozen? ⟨b, 0, none⟩ = false ∧ w.frozen? ⟨b, 1, none⟩ = false ∧ w.frozen? ⟨b, 2, none⟩ = false ∧ w.frozen? ⟨b, 3, none⟩ = false ∧ w.frozen? ⟨b, 4, none⟩ = false) :=
 ⟨⟨h.1 0 _ rfl, h.1 1 _ rfl, h.1 2 _ rfl, h.1 3 _ rfl, h.1 4 _ rfl⟩, ⟨h.2.1 0 (by simp), h.2.1 1 (by simp), h.2.1 2 (by simp), h.2.1 3 (by simp), h.2.1 4 (by simp)⟩⟩
theorem Has.eight {w : World} {b : Nat} {a0 a1 a2 a3 a4 a5 a6 a7 : Value} (h : Has w b [a0, a1, a2, a3, a4, a5, a6, a7]) : w.cell? ⟨b, 0, none⟩ = some a0 ∧ w.cell? ⟨b, 1, none⟩ = some a1 ∧ w.cell? ⟨b, 2, none⟩ = some a2 ∧ w.cell? ⟨b, 3, none⟩ = some a3 ∧ w.cell? ⟨b, 4, none⟩ = some a4 ∧ w.cell? ⟨b, 5, none⟩ = some a5 ∧ w.cell? ⟨b, 6, none⟩ = some a6 ∧ w.cell? ⟨b, 7, none⟩ = some a7 :=
 ⟨h.1 0 _ rfl, h.1 1 _ rfl, h.1 2 _ rfl, h.1 3 _ rfl, h.1 4 _ rfl, h.1 5 _ rfl, h.1 6 _ rfl, h.1 7 _ rfl⟩
theorem strRows_down {w w' : World} {a : Option Addr} {len k : Nat} {x : Nat → Nat → ByteArray} (h : StrRows w a len k x) (hb : Below w.heap.size w w') : StrRows w' a len k x := by
 intro i hi
 obtain ⟨b, off, ha, hlt, hc⟩ := h i hi
 exact ⟨b, off, ha, Nat.lt_of_lt_of_le hlt hb.size, fun j hj => ⟨moved (hc j hj).1 hb (Nat.le_refl _), (hc j hj).2⟩⟩
theorem msg_new {fs : List Fld} {bd : ByteArray} {W0 wa w4 : World} {v : Value} {t : TypeId} (hw : W0.heap.size ≤ wa.heap.size) (hb : Below W0.heap.size W0 w4) (hr : w4.ownsRow wa.heap.size 104 2 v fs.length (fcells fs)) :
    MsgNew fs bd W0.heap.size W0 (.pointer (some ⟨w4.heap.size, 0, none⟩)) (w4.alloc (.cells #[v, .string bd] t)) :=
 ⟨w4.heap.size, v, rfl, Pair.alloc _ _ _ _, row_down (row_base hw hr) (ba (Below.refl _ _) _), fun e => by have := (World.ownsRow.lt hr _ e).2; omega, hb.size, ba hb _⟩
theorem msg_at {fs : List Fld} {bd : ByteArray} {W0 wa w4 : World} {v x y : Value} {M : Nat} (hw : W0.heap.size ≤ M) (hM : M < wa.heap.size) (hp : Pair w4 M x y) (hb : Below W0.heap.size W0 w4) (hr : w4.ownsRow wa.heap.size 104 2 v fs.length (fcells fs)) :
    MsgNew fs bd W0.heap.size W0 (.pointer (some ⟨M, 0, none⟩)) ((w4.setCell ⟨M, 0, none⟩ v).setCell ⟨M, 1, none⟩ (.string bd)) := by
 have hne : v.ownBlock ≠ some M := fun e => by have := (World.ownsRow.lt hr _ e).1; omega
 have hgr : w4.grownBy ((w4.setCell ⟨M, 0, none⟩ v).setCell ⟨M, 1, none⟩ (.string bd)) (some M) := Go.Lib.grownBy_setB (Go.Lib.grownBy_setB (World.grownBy.refl w4 (some M)) 0 _) 1 _
 exact ⟨M, v, rfl, hp.set _ _, World.ownsRow.kept (row_base (by omega) hr) hgr (.inr hne), hne, hw, bgr hb hgr hb.size hw⟩
theorem row_slice {w : World} {B : Nat} {t : TypeId} {k n : Nat} {v : Value} {L : List Value} (h : w.ownsRow B t k v n L) : ∃ Gv cv, v = .slice Gv n cv := by
 rcases h.2 with ⟨h1, h2⟩ | ⟨g, cap, _, h1, _⟩
 ·exact ⟨none, 0, by rw [h1, h2]⟩
 ·exact ⟨_, _, h1⟩
theorem ltr_step {W0 wr : World} {M g cap n k : Nat} {bd : Value} {cs : List Value} {u : Value} {o : Obj} (hgM : g ≠ M) (hg0 : W0.heap.size ≤ g) (hp : Pair wr M (.slice (some ⟨g, 0, none⟩) n cap) bd) (hr : wr.ownsRow W0.heap.size 104 2 (.slice (some ⟨g, 0, none⟩) n cap) n cs) (hb : Below W0.heap.size W0 wr) :
    Pair ((wr.setCell ⟨g, k, none⟩ u).alloc o).drew M (.slice (some ⟨g, 0, none⟩) n cap) bd ∧ ((wr.setCell ⟨g, k, none⟩ u).alloc o).drew.ownsRow W0.heap.size 104 2 (.slice (some ⟨g, 0, none⟩) n cap) n (cs.set k u) ∧ Below W0.heap.size W0 ((wr.setCell ⟨g, k, none⟩ u).alloc o).drew := by
 have hd : Below (wr.setCell ⟨g, k, none⟩ u).heap.size (wr.setCell ⟨g, k, none⟩ u) ((wr.setCell ⟨g, k, none⟩ u).alloc o).drew := Below.drew (ba (Below.refl _ _) _)
 refine ⟨?_, row_down (hr.stored k u).1 hd, bt (hb.setCell hg0 u) hd⟩
 have h := hp.else0 (i := k) (fun e => hgM e.symm) u
 exact h.below hd h.2.2.2.2
theorem letter_end {R : Nat} {x0 x1 x2 x3 x4 : ByteArray} {a : Act} {W w : World} (ht : a.tmps.getD 2 undef = .pointer (some ⟨R, 0, none⟩)) (h3 : a.tmps.getD 3 undef = .bool true) (hd : a.defers = []) (h : Has W R [.string x0, .string x1, .string x2, .string x3, .string x4]) (hb : Below w.heap.size w W) :
    bodyPost Tryz.prog Tryz.f14 (fun e w' => e = .returned (.tuple #[.agg #[.string x0, .string x1, .string x2, .string x3, .string x4], .bool true]) ∧ Below w.heap.size w w') .ret a W := by
 obtain ⟨⟨c0, c1, c2, c3, c4⟩, -⟩ := h.five
 refine bodyPost_ret (v := .tuple #[.agg #[.string x0, .string x1, .string x2, .string x3, .string x4], .bool true]) ?_ hd ⟨rfl, hb⟩
 have ht' : a.tmps[2]?.getD undef = .pointer (some ⟨R, 0, none⟩) := by simpa using ht
 have h3' : a.tmps[3]?.getD undef = .bool true := by simpa using h3
 simp [results, Tryz.results14, go_sem, ht', h3', c0, c1, c2, c3, c4]
theorem mk_arr (b : ByteArray) : (⟨b.data.toList.toArray⟩ : ByteArray) = b := Lib.mk_data b
theorem letter_any (a0 a1 a2 b0 b1 b2 : ByteArray) (G : Option Addr) (n c : Nat) (x : Nat → Nat → ByteArray) (bo : ByteArray) (m : Int) (w : World) (h0 : a0.size ≤ maxLen) (h1 : a1.size ≤ maxLen) (k0 : b0.size ≤ maxLen) (k1 : b1.size ≤ maxLen) (hx : StrRows w G n 2 x ∧ n ≤ maxLen) (hbo : bo.size ≤ maxLen) (hm : w.cell? ⟨6, 0, none⟩ = some (.int .i64 m)) :
    Calls Tryz.prog 14 #[.agg #[.string a0, .string a1, .string a2, .string b0, .string b1, .string b2, .slice G n c, .string bo]] w fun e w' => e = .returned (.tuple #[.agg #[.string (addrL a0.data.toList), .string (addrD a1.data.toList), .string (addrL b0.data.toList), .string (addrD b1.data.toList), .string ⟨(ltrT x n bo.data.toList).toArray⟩], .bool true]) ∧ Below w.heap.size w w' := by
 obtain ⟨hx, hn⟩ := hx
 have hA := ba (ba (Below.refl w.heap.size w) (.cells #[.string a0, .string a1, .string a2, .string b0, .string b1, .string b2, .slice G n c, .string bo] 26)) (.cells #[.string ⟨#[]⟩, .string ⟨#[]⟩, .string ⟨#[]⟩, .string ⟨#[]⟩, .string ⟨#[]⟩] 33)
 have hP : PR ((w.alloc (.cells #[.string a0, .string a1, .string a2, .string b0, .string b1, .string b2, .slice G n c, .string bo] 26)).alloc (.cells #[.string ⟨#[]⟩, .string ⟨#[]⟩, .string ⟨#[]⟩, .string ⟨#[]⟩, .string ⟨#[]⟩] 33)) w.heap.size (w.heap.size + 1) a0 a1 a2 b0 b1 b2 (.slice G n c) bo := by
  have g1 := Has.alloc w [.string a0, .string a1, .string a2, .string b0, .string b1, .string b2, .slice G n c, .string bo] 26
  have g2 := Has.alloc (w.alloc (.cells #[.string a0, .string a1, .string a2, .string b0, .string b1, .string b2, .slice G n c, .string bo] 26)) [.string ⟨#[]⟩, .string ⟨#[]⟩, .string ⟨#[]⟩, .string ⟨#[]⟩, .string ⟨#[]⟩] 33
  rw [World.size_alloc] at g2
  exact ⟨g1.down (ba (Below.refl _ _) _), g2⟩
 have HX := Lib.hid hx
 have HP := Lib.hid hP; have HA := Lib.hid hA
 have HM := Lib.hid (moved hm hA (Nat.le_refl _))
 obtain ⟨BD, hBD⟩ : ∃ BD : ByteArray, BD = ⟨(bo.data.toList.take 100).toArray⟩ := ⟨_, rfl⟩
 have hBl : BD.data.toList = bo.data.toList.take 100 := by rw [hBD]
 have hBt : BD.data.toList.take 200 = BD.data.toList := by rw [hBl, List.take_take]; rfl
 have hBs : BD.size ≤ 100 := take_size bo BD 100 hBD
 have HCUT : Hid (∀ w : World, Calls Tryz.prog 40 #[.string bo, .int .i64 100] w fun e w' => e = .returned (.string BD) ∧ w = w') := by
  intro w; rw [hBD]; exact clip_any bo 100 w (Nat.le_trans hbo (by decide)) (by decide) (by decide)
 have HMSG : Hid (∀ w' : World, Below w.heap.size w w' → Calls Tryz.prog 39 #[.slice G n c, .string BD] w' fun e w'' => (∃ v, e = .returned (.agg #[v, .string BD]) ∧ w''.ownsRow w'.heap.size 104 2 v (msgL x (min n 6)).length (fcells (msgL x (min n 6)))) ∧ Below w'.heap.size w' w'') := by
  intro w' hb
  have h := message_any G n c x BD w' (strRows_down hx hb) hn (Nat.le_trans hBs (by decide))
  rw [hBt, mk_arr] at h
  rw [msgL_len]; exact h
 have HT : Hid (ltrT x n bo.data.toList = showL (ltrFs x n) BD.data.toList) := by unfold Hid ltrT; rw [hBl]
 have hfv := msg_val x (min n 6)
 have hgd := ltrFs_good x n; have hfl := ltrFs_len x n; have hfz := ltrFs_size x n; have htl := ltrT_len x n bo.data.toList
 have HFS : Hid (ltrFs x n = ltrJ (msgL x (min n 6)) (msgL x (min n 6)).length) := by
  unfold Hid ltrFs ltrJ
  rw [List.take_length, List.drop_length, List.append_nil]
 obtain ⟨fs, hfs⟩ : ∃ fs, fs = msgL x (min n 6) := ⟨_, rfl⟩
 have hfs6 : fs.length ≤ 6 := by rw [hfs, msgL_len]; omega
 rw [← hfs] at HMSG hfv HFS
 have HFV := Lib.hid hfv; have HGD := Lib.hid hgd; have HFL := Lib.hid hfl; have HFZ := Lib.hid hfz; have HTL := Lib.hid htl
 unfold maxLen at h0 h1 k0 k1 hn hbo
 have HAD : Hid (∀ (a d v : ByteArray) (w : World), a.size ≤ 9223372036854775807 → d.size ≤ 9223372036854775807 → Calls Tryz.prog 42 #[.agg #[.string a, .string d, .string v]] w fun e w' => e = .returned (.agg #[.string (addrL a.data.toList), .string (addrD d.data.toList)]) ∧ Below w.heap.size w w') := fun a d v w h h' => address_any a d v w (by omega) (by omega)
 clear hA hP hBD hBl hBt hx hm hfv hgd hfl hfz htl hfs
 obtain ⟨W0, hW0⟩ : ∃ W0, W0 = ((w.alloc (.cells #[.string a0, .string a1, .string a2, .string b0, .string b1, .string b2, .slice G n c, .string bo] 26)).alloc (.cells #[.string ⟨#[]⟩, .string ⟨#[]⟩, .string ⟨#[]⟩, .string ⟨#[]⟩, .string ⟨#[]⟩] 33)) := ⟨_, rfl⟩
 rw [← hW0] at HP HA HM
 have HW0 := Lib.hid hW0.symm
 clear hW0
 go_enter Tryz.func14, Tryz.ntmps14
 go_upto_region 1 with fail
 rw [HW0.out]
 obtain ⟨P, hP⟩ : ∃ P, P = w.heap.size := ⟨_, rfl⟩
 obtain ⟨R, hR⟩ : ∃ R, R = w.heap.size + 1 := ⟨_, rfl⟩
 rw [← hR, ← hP] at HP ⊢
 have o1 : P < R := by omega
 have o2 : w.heap.size ≤ P := by omega
 have o3 : R < W0.heap.size := HP.out.2.2.2
 clear hP hR HW0
 obtain ⟨-, -, -, -, -, -, p6, p7⟩ := HP.out.1.eight
 have HWa : Hid (Below W0.heap.size W0 W0.drew) := Below.drew (Below.refl _ _)
 have HWb : Hid (Below W0.heap.size W0 (W0.alloc (.cells #[.slice none 0 0, .string ⟨#[]⟩] 100)).drew) := Below.drew (ba (Below.refl _ _) _)
 have HZ : Hid (Pair (W0.alloc (.cells #[.slice none 0 0, .string ⟨#[]⟩] 100)).drew W0.heap.size (.slice none 0 0) (.string ⟨#[]⟩)) := (Pair.alloc W0 _ _ _).below (B := (W0.alloc (.cells #[.slice none 0 0, .string ⟨#[]⟩] 100)).heap.size) (Below.drew (Below.refl _ _)) (by rw [World.size_alloc]; omega)
 have n1 : W0.heap.size ≠ P := by omega
 have p6a := cal (.cells #[.slice none 0 0, .string ⟨#[]⟩] 100) p6; have p7a := cal (.cells #[.slice none 0 0, .string ⟨#[]⟩] 100) p7
 go_cut [4] (MsgNew fs BD W0.heap.size W0)
 case first =>
  go_region_with (first
   | (go_at_call 40; refine (HCUT.out _).mono ?_; rintro e w' ⟨rfl, rfl⟩)
   | (go_at_call 39; refine (HMSG.out _ (by first | exact bt HA.out HWa.out | exact bt HA.out HWb.out)).mono ?_; intro e w4 hp; obtain ⟨⟨v, rfl, hown⟩, hb4⟩ := hp; obtain ⟨Gv, cv, hvv⟩ := row_slice hown; subst hvv; first | (with_reducible have hbA : Below W0.drew.heap.size W0.drew w4 := hb4) | ((with_reducible have hbB : Below (W0.alloc (.cells #[.slice none 0 0, .string ⟨#[]⟩] 100)).drew.heap.size (W0.alloc (.cells #[.slice none 0 0, .string ⟨#[]⟩] 100)).drew w4 := hb4); have kk := HZ.out.below hb4 (by simp); obtain ⟨z0, z1, zf0, zf1, -⟩ := kk)))
  all_goals
   go_wp2_with fail
   go_meet
   case rel => first
    | (have _t := hbA; exact msg_new HWa.out.size (bt HWa.out hb4) hown)
    | (have _t := hbB; exact msg_at (Nat.le_refl _) (by simp) ⟨z0, z1, zf0, zf1, by have := hb4.size; simp at this; omega⟩ (bt HWb.out hb4) hown)
 case rest =>
  obtain ⟨M, V, rfl, hpr, hrow, hvm, hM0, hb1⟩ := hcut
  have HP0 := HP; have HM0 := HM
  have o4 : M ≠ P ∧ M ≠ R := by omega
  obtain ⟨o4, o5⟩ := o4
  have HRow := Lib.hid hrow; have HPair := Lib.hid hpr; have HB1 := Lib.hid hb1; have HVM := Lib.hid hvm
  have o6 : W0.heap.size ≤ wc.heap.size := hb1.size
  clear hb1 hpr hrow hvm p6 p7 p6a p7a HWa HWb HZ HP HM n1 HCUT HMSG
  go_wp2_with fail
  go_loopw [5] (fun i wr => ∃ j : Nat, j ≤ fs.length ∧ i = .int .i64 j ∧ Pair wr M V (.string BD) ∧ wr.ownsRow W0.heap.size 104 2 V fs.length (fcells (ltrJ fs j)) ∧ Below W0.heap.size W0 wr) (fun i _ => fs.length - (intOf i).toNat)
  case atStart => exact ⟨0, Nat.zero_le _, rfl, HPair.out, HRow.out, HB1.out⟩
  case round =>
   obtain ⟨j, hj, rfl, hpr, hrow, hb⟩ := hrel
   by_cases hlt : j < fs.length
   ·obtain ⟨g, cap, rfl, hg0, hg⟩ := World.ownsRow.form hrow (by omega)
    have hgM : g ≠ M := fun e => HVM.out (by rw [e]; rfl)
    obtain ⟨f, hf⟩ : ∃ f, f = fs[j] := ⟨_, rfl⟩
    have hf2 : f.2.length ≤ 40 := by rw [hf]; exact HFV.out _ (List.getElem_mem hlt)
    have hLj := ltrJ_at hlt
    have hLn := ltrJ_next hlt
    rw [← hf] at hLj hLn
    obtain ⟨L, hL⟩ : ∃ L, L = ltrJ fs j := ⟨_, rfl⟩
    rw [← hL] at hLj hLn hrow
    have hc0 := (hrow.cellAt (j * 2) (by omega)).trans (fcells_at L j f hLj).1
    have hc1 := (hrow.cellAt (j * 2 + 1) (by omega)).trans (fcells_at L j f hLj).2
    have hfr0 := hrow.frozenAt (j * 2); have hfr1 := hrow.frozenAt (j * 2 + 1)
    have hLN := fcells_name j L f (letN f.2.length) hLj
    have hLj2 : (L.set j (letN f.2.length, f.2))[j]? = some (letN f.2.length, f.2) := by
     have : j < L.length := by rw [hL, ltrJ_len]; exact hlt
     rw [List.getElem?_set_self this]
    have hLV := fcells_val j (L.set j (letN f.2.length, f.2)) (letN f.2.length, f.2) annL hLj2
    rw [List.set_set] at hLV
    have gA := letNames_at f.2.length
    obtain ⟨B, hB⟩ : ∃ B : ByteArray, B = ⟨f.2.toArray⟩ := ⟨_, rfl⟩
    have hBn : B.size = f.2.length := by rw [hB]; rfl
    rw [← hB] at hc1
    obtain ⟨NM, hNM⟩ : ∃ NM : ByteArray, NM = ⟨(letN f.2.length).toArray⟩ := ⟨_, rfl⟩
    rw [← hNM] at gA hLN
    obtain ⟨k5, hk5⟩ : ∃ k5, k5 = f.2.length % 5 := ⟨_, rfl⟩
    have hk5' : k5 < 5 := by rw [hk5]; exact Nat.mod_lt _ (by decide)
    rw [← hk5] at gA
    have HPK : Hid (∀ w, Calls Tryz.prog 15 #[.int .i64 B.size, .int .i64 5] w fun e w' => e = .returned (.int .i64 k5) ∧ w = w') := by
     intro w; rw [hk5, ← hBn]; exact picked_nat B.size w (by omega)
    have HLJ2 := Lib.hid hLj2; have HBE := Lib.hid hB
    have HLN := Lib.hid hLN; have HLV := Lib.hid hLV; have HLX := Lib.hid hLn; have HBN := Lib.hid hBn; have HK5 := Lib.hid hk5; have HNM := Lib.hid hNM; have HL := Lib.hid hL; have HF := Lib.hid hf
    have hBs40 : B.size ≤ 40 := by omega
    have HROW := Lib.hid hrow; have HB := Lib.hid hb; have HPA := Lib.hid hpr
    obtain ⟨q0, q1, -, -, hMw⟩ := hpr
    have dj : decide ((j : Int) < (fs.length : Int)) = true := decide_eq_true (by omega)
    clear hrow hb hf hLj hLn hL hLN hLj2 hLV hB hBn hNM hk5 HRow HPair HB1
    go_upto_region 5 with fail
    clear dj
    have i1 : (0 : Int) ≤ j := by omega
    have i2 : (j : Int) < fs.length := by omega
    have n1 : wr.heap.size ≠ g := by omega
    have n2 : wr.heap.size ≠ M := by omega
    have i3 : (0 : Int) ≤ k5 := by omega
    have i4 : (k5 : Int) < 5 := by omega
    have gA3 : (wr.alloc (.cells #[.string ⟨#[83, 117, 98, 106, 101, 99, 116]⟩, .string ⟨#[116, 111]⟩, .string ⟨#[70, 114, 111, 109]⟩, .string ⟨#[99, 99]⟩, .string ⟨#[88]⟩] 9)).cell? ⟨wr.heap.size, k5, none⟩ = some (.string NM) := (Has.alloc wr letNames 9).1 k5 _ gA
    have q0a := cal (.cells #[.string ⟨#[83, 117, 98, 106, 101, 99, 116]⟩, .string ⟨#[116, 111]⟩, .string ⟨#[70, 114, 111, 109]⟩, .string ⟨#[99, 99]⟩, .string ⟨#[88]⟩] 9) q0; have hc1a := cal (.cells #[.string ⟨#[83, 117, 98, 106, 101, 99, 116]⟩, .string ⟨#[116, 111]⟩, .string ⟨#[70, 114, 111, 109]⟩, .string ⟨#[99, 99]⟩, .string ⟨#[88]⟩] 9) hc1; have hc0a := cal (.cells #[.string ⟨#[83, 117, 98, 106, 101, 99, 116]⟩, .string ⟨#[116, 111]⟩, .string ⟨#[70, 114, 111, 109]⟩, .string ⟨#[99, 99]⟩, .string ⟨#[88]⟩] 9) hc0
    clear gA hk5'
    go_cut [5] (fun i wx => i = .int .i64 j ∧ Pair wx M (.slice (some ⟨g, 0, none⟩) fs.length cap) (.string BD) ∧ wx.ownsRow W0.heap.size 104 2 (.slice (some ⟨g, 0, none⟩) fs.length cap) fs.length (fcells (L.set j (letN f.2.length, f.2))) ∧ Below W0.heap.size W0 wx)
    case first =>
     go_region_with ((go_at_call 15; refine (HPK.out _).mono ?_; rintro e w' ⟨rfl, rfl⟩))
     all_goals
      go_wp2_with fail
      go_meet
      case rel => exact ⟨rfl, by rw [HLN.out]; exact ltr_step hgM hg0 HPA.out HROW.out HB.out⟩
    case rest =>
     obtain ⟨rfl, hpr2, hrow2, hb2⟩ := hcut
     have r0 := (hrow2.cellAt (j * 2) (by omega)).trans (fcells_at _ j _ HLJ2.out).1
     have r1 := (hrow2.cellAt (j * 2 + 1) (by omega)).trans (fcells_at _ j _ HLJ2.out).2
     have s0 := hrow2.frozenAt (j * 2); have s1 := hrow2.frozenAt (j * 2 + 1)
     have HPR2 := Lib.hid hpr2
     obtain ⟨t0, t1, tf0, tf1, -⟩ := hpr2
     have HROW2 := Lib.hid hrow2; have HB2 := Lib.hid hb2
     have hBe : (⟨f.2.toArray⟩ : ByteArray) = B := HBE.out.symm
     simp only [hBe] at r1
     clear hrow2 hb2 HPA HROW HB hBe q0 q1 hc0 hc1 hfr0 hfr1 gA3 q0a hc1a hc0a HLN HPK
     by_cases hk1 : f.2.length % 5 = 1
     ·have hN : letN f.2.length = [116, 111] := by unfold letN; rw [hk1]; rfl
      simp only [hN] at r0
      by_cases hodd : f.2.length % 2 = 1
      ·have hF : Hid (letF f = (letN f.2.length, annL)) := by unfold Hid letF; rw [if_pos ⟨hk1, hodd⟩]
       have qo : ((B.size : Int) % 2 == 1) = true := beq_iff_eq.2 (by have := HBN.out; omega)
       clear hk1 hN hodd
       go_wp2_with fail
       go_roundw
       case rel => exact ⟨j + 1, by omega, by go_num, HPR2.out.else0 (fun e => hgM e.symm) _, by rw [← HLX.out, hF.out, HLV.out]; exact (HROW2.out.stored (j * 2 + 1) _).1, HB2.out.setCell hg0 _⟩
       case measure => simp [intOf]; omega
      ·have hF : Hid (letF f = (letN f.2.length, f.2)) := by unfold Hid letF; rw [if_neg (fun h => hodd h.2)]
       have qo : ((B.size : Int) % 2 == 1) = false := beq_eq_false_iff_ne.2 (by have := HBN.out; omega)
       clear hk1 hN hodd
       go_wp2_with fail
       go_roundw
       case rel => exact ⟨j + 1, by omega, by go_num, HPR2.out, by rw [← HLX.out, hF.out]; exact HROW2.out, HB2.out⟩
       case measure => simp [intOf]; omega
     ·have hF : Hid (letF f = (letN f.2.length, f.2)) := by unfold Hid letF; rw [if_neg (fun h => hk1 h.1)]
      have qn : (letN f.2.length = [116, 111]) = False := eq_false (by unfold letN; have : f.2.length % 5 < 5 := Nat.mod_lt _ (by decide); intro e; split at e <;> first | (simp at e; done) | (rename_i h; exact hk1 h))
      clear hk1
      go_wp2_with fail
      go_roundw
      case rel => exact ⟨j + 1, by omega, by go_num, HPR2.out, by rw [← HLX.out, hF.out]; exact HROW2.out, HB2.out⟩
      case measure => simp [intOf]; omega
   ·obtain rfl : j = fs.length := by omega
    obtain ⟨Gv, cv, hV⟩ := row_slice hrow
    subst hV
    obtain ⟨t0, t1, -, -, -⟩ := id hpr
    have hFA : FldsAt wr (.slice Gv fs.length cv) (ltrFs x n) := by rw [HFS.out]; exact FldsAt.of_row (by rw [ltrJ_len]; exact hrow)
    have hsh := show_walk (ltrFs x n) (.slice Gv fs.length cv) BD ⟨(ltrT x n bo.data.toList).toArray⟩ m wr (by rw [HT.out]) hFA HGD.out (by rw [HFL.out]; omega) (by have := HFZ.out; omega) (moved HM0.out hb (Nat.le_refl _))
    have HSH := Lib.hid hsh
    have HP3 := Lib.hid (HP0.out.down hb); have HB3 := Lib.hid (bt HA.out hb)
    clear HRow HPair HB1 hsh hFA hrow hpr hb HM0 HP0
    go_wp2_with fail
    refine HSH.out.mono ?_
    rintro e w3 ⟨rfl, hb3⟩
    have HP4 := Lib.hid (HP3.out.down hb3); have HB4 := Lib.hid (bt HB3.out hb3)
    clear hb3 HSH HP3 HB3
    obtain ⟨p0, p1, p2, p3, p4, p5, -, -⟩ := HP4.out.1.eight
    obtain ⟨⟨r0, r1, r2, r3, r4⟩, ⟨g0, g1, g2, g3, g4⟩⟩ := HP4.out.2.five
    have htl := HTL.out
    have hTs : ((⟨(ltrT x n bo.data.toList).toArray⟩ : ByteArray).size : Int) ≥ 2 := by show ((List.toArray _).size : Int) ≥ 2; rw [List.size_toArray]; omega
    obtain ⟨TX, hTX⟩ : ∃ TX : ByteArray, TX = ⟨(ltrT x n bo.data.toList).toArray⟩ := ⟨_, rfl⟩
    rw [← hTX] at hTs ⊢
    have HTX := Lib.hid hTX
    have nPR : R ≠ P := by omega
    have nRP : P ≠ R := by omega
    clear hTX htl
    go_wp2_with fail
    go_region_held3 (fun w' => w'.cell? ⟨P, 0, none⟩ = some (.string a0) ∧ w'.cell? ⟨P, 1, none⟩ = some (.string a1) ∧ w'.cell? ⟨P, 2, none⟩ = some (.string a2) ∧ w'.cell? ⟨P, 3, none⟩ = some (.string b0) ∧ w'.cell? ⟨P, 4, none⟩ = some (.string b1) ∧ w'.cell? ⟨P, 5, none⟩ = some (.string b2)) (first | with_reducible exact ⟨p0, p1, p2, p3, p4, p5⟩ | with_reducible exact ⟨e_0, e_1, e_2, e_3, e_4, e_5⟩ | with_reducible exact ⟨f_0, f_1, f_2, f_3, f_4, f_5⟩ | go_keep) (first
     | (go_at_call 42; refine (HAD.out _ _ _ _ (by assumption) (by assumption)).mono ?_; rintro e w4 ⟨rfl, hb4⟩; first | ((with_reducible have hbA : Below w3.drew.heap.size w3.drew w4 := hb4); have e_0 := mvd p0 hb4 (Nat.le_refl _); have e_1 := mvd p1 hb4 (Nat.le_refl _); have e_2 := mvd p2 hb4 (Nat.le_refl _); have e_3 := mvd p3 hb4 (Nat.le_refl _); have e_4 := mvd p4 hb4 (Nat.le_refl _); have e_5 := mvd p5 hb4 (Nat.le_refl _); have kR := (HP4.out.2.down (Below.drew (Below.refl _ _))).down hb4) | (have f_0 := moved e_0 hb4 (Nat.le_refl _); have f_1 := moved e_1 hb4 (Nat.le_refl _); have f_2 := moved e_2 hb4 (Nat.le_refl _); have f_3 := moved e_3 hb4 (Nat.le_refl _); have f_4 := moved e_4 hb4 (Nat.le_refl _); have f_5 := moved e_5 hb4 (Nat.le_refl _); have hbB := hb4; have kR2 := kR.down hb4; obtain ⟨⟨z0, z1, z2, z3, z4⟩, ⟨y0, y1, y2, y3, y4⟩⟩ := (id kR2).five)))
    all_goals
     go_wp2_with fail
     rw [← HTX.out]
     refine letter_end rfl rfl rfl (((((kR2.set' (i := 0) _ (by simp)).set' (i := 1) _ (by simp)).set' (i := 2) _ (by simp)).set' (i := 3) _ (by simp)).set' (i := 4) _ (by simp)) ?_
     have hR0 : w.heap.size ≤ R := by omega
     have hbC := bt (bt (Below.drew HB4.out) hbA) hbB
     exact ((((hbC.setCell hR0 _).setCell hR0 _).setCell hR0 _).setCell hR0 _).setCell hR0 _
theorem trim_blank (v : List UInt8) : trimV (32 :: v) = trimV v := by
 unfold trimV Lib.trimS
 have hp : (([32, 9] : List UInt8).contains 32) = true := by decide
 have hr : Lib.trimRightS (32 :: v) [32, 9] = if (Lib.trimRightS v [32, 9]) = [] then [] else 32 :: Lib.trimRightS v [32, 9] := by
  unfold Lib.trimRightS
  rw [List.reverse_cons, List.dropWhile_append]
  cases hd : v.reverse.dropWhile (([32, 9] : List UInt8).contains ·) with
  | nil => rfl
  | cons a b => simp
 rw [hr]
 split
 ·next h => rw [h]
 ·show Lib.trimLeftS (32 :: _) _ = _
  unfold Lib.trimLeftS
  rw [List.dropWhile_cons, hp]
  rfl
theorem nameC_ne {c : UInt8} (h : nameC c = true) : c ≠ 13 ∧ c ≠ 10 ∧ c ≠ 58 ∧ c ≠ 32 ∧ c ≠ 9 := by
 refine ⟨?_, ?_, ?_, ?_, ?_⟩ <;> (rintro rfl; exact absurd h (by decide))
theorem name_all {l : List UInt8} (h : nameOK l = true) : (∀ c ∈ l, nameC c = true) ∧ l.isEmpty = false := by
 rw [nameOK_eq, Bool.and_eq_true] at h
 exact ⟨List.all_eq_true.1 h.1, by simpa using h.2⟩
theorem crlf_append : ∀ (x y : List UInt8), 13 ∉ x → sepL [13, 10] (x ++ y) = none ∨ sepL [13, 10] y ≠ none
 | [], y, _ => by
  cases h : sepL [13, 10] y with
  | none => exact .inl h
  | some p => exact .inr (by simp)
 | c :: x, y, h => by
  have hx : 13 ∉ x := fun e => h (List.mem_cons_of_mem _ e)
  rcases crlf_append x y hx with h1 | h1
  ·left
   have hp : ¬ [13, 10].isPrefixOf (c :: (x ++ y)) = true := by
    intro h2
    simp [List.isPrefixOf] at h2
    exact h (by rw [← h2.1]; exact List.mem_cons_self ..)
   show sepL [13, 10] (c :: (x ++ y)) = none
   rw [sepL, if_neg hp, h1]; rfl
  ·exact .inr h1
theorem crlf_line {n v : List UInt8} (hn : nameOK n = true) (hv : sepL [13, 10] v = none) : sepL [13, 10] (n ++ [58, 32] ++ v) = none := by
 have h13 : 13 ∉ n ++ [58, 32] := by
  intro h
  rcases List.mem_append.1 h with h | h
  ·exact (nameC_ne ((name_all hn).1 13 h)).1 rfl
  ·exact absurd h (by decide)
 rcases crlf_append (n ++ [58, 32]) v h13 with h | h
 ·exact h
 ·exact absurd hv h
def rawF (f : Fld) : Fld := (f.1, 32 :: f.2)
theorem parse_shown : ∀ (fs : List Fld) (i : Nat) (acc : List Fld) (rest : List UInt8), (∀ f ∈ fs, Good f) → acc.length + fs.length ≤ 30 →
    parseL i acc (showF fs ++ rest) = parseL (i + fs.length) (acc ++ fs.map rawF) rest
 | [], i, acc, rest, _, _ => by
  show parseL i acc rest = parseL i (acc ++ []) rest
  rw [List.append_nil]
 | f :: fs, i, acc, rest, hg, hl => by
  obtain ⟨g1, g2, g3⟩ := hg f (List.mem_cons_self ..)
  obtain ⟨ha, he⟩ := name_all g1
  have hsplit : showF (f :: fs) ++ rest = (f.1 ++ [58, 32] ++ f.2) ++ 13 :: 10 :: (showF fs ++ rest) := by
   show (fieldL f ++ showF fs) ++ rest = _
   unfold fieldL
   simp
  have hs := sep_crlf (f.1 ++ [58, 32] ++ f.2) (showF fs ++ rest) (crlf_line g1 g2)
  rw [← hsplit] at hs
  have hne : (f.1 ++ [58, 32] ++ f.2).isEmpty = false := by simp
  have hhd : isBlank ((f.1 ++ [58, 32] ++ f.2).headD 0) = false := by
   cases hf : f.1 with
   | nil => rw [hf] at he; cases he
   | cons a b =>
    have := nameC_ne (ha a (by rw [hf]; exact List.mem_cons_self ..))
    show isBlank a = false
    unfold isBlank
    rw [beq_eq_false_iff_ne.2 this.2.2.2.1, beq_eq_false_iff_ne.2 this.2.2.2.2]; rfl
  have h58 : sepL [58] (f.1 ++ [58, 32] ++ f.2) = some (f.1, 32 :: f.2) := by
   have := sep_byte 58 f.1 (32 :: f.2) (fun h => (nameC_ne (ha 58 h)).2.2.1 rfl)
   rw [← this]
   simp
  simp only [List.length_cons] at hl
  rw [parse_field hs hne (by rw [hhd]; rfl) h58 g1 (by omega), parse_shown fs (i + 1) (acc ++ [(f.1, 32 :: f.2)]) rest (fun f' h => hg f' (List.mem_cons_of_mem _ h)) (by simp; omega)]
  rw [List.append_assoc]
  show parseL (i + 1 + fs.length) (acc ++ (rawF f :: fs.map rawF)) rest = _
  rw [show i + 1 + fs.length = i + (fs.length + 1) by omega]
  rfl
theorem raw_trim (fs : List Fld) (hg : ∀ f ∈ fs, Good f) : (fs.map rawF).map trimF = fs := by
 rw [List.map_map]
 conv => rhs; rw [← List.map_id fs]
 refine List.map_congr_left fun f hf => ?_
 show (f.1, trimV (32 :: f.2)) = f
 rw [trim_blank, (hg f hf).2.2]
theorem parse_show (fs : List Fld) (body : List UInt8) (hg : ∀ f ∈ fs, Good f) (hl : fs.length ≤ 30) : parseL 0 [] (showL fs body) = ((fs, body), 0, 0) := by
 have e : showL fs body = showF fs ++ 13 :: 10 :: body := by unfold showL; simp
 rw [e, parse_shown fs 0 [] _ hg (by simpa using hl), List.nil_append]
 have := parse_end (i := 0 + fs.length) (fs := fs.map rawF) (s := 13 :: 10 :: body) (rest := body) rfl
 rw [this, raw_trim fs hg]
end Go.Proofs.YtpfbkdbblpppdaaGreatDoor
