/-
  DERIVED. Plain laws: a message is parsed as it was shown.
-/
import Derived.Test.YtkchoempejdleaaDoorMCheck
import Derived.Test.YtkchoempejdleaaDoorMessage
import Derived.Test.YtkchoempejdleaaDoorParse
import Derived.Test.YtkchoempejdleaaDoorSameMsg
import Derived.Test.YtkchoempejdleaaDoorTwo
namespace Go.Proofs.YtkchoempejdleaaDoor
open Go.RowKit

theorem trim_blank (v : List UInt8) : trimV (32 :: v) = trimV v := by
  unfold trimV Lib.trimS
  have hp : (([32, 9] : List UInt8).contains 32) = true := by decide
  have hr : Lib.trimRightS (32 :: v) [32, 9] = if (Lib.trimRightS v [32, 9]) = [] then [] else 32 :: Lib.trimRightS v [32, 9] := by
    unfold Lib.trimRightS
    rw [List.reverse_cons, List.dropWhile_append]
    cases hd : v.reverse.dropWhile (([32, 9] : List UInt8).contains ·) with
    | nil => rfl
    | cons a b => simp
  rw [hr]
  split
  · next h => rw [h]
  · show Lib.trimLeftS (32 :: _) _ = _
    unfold Lib.trimLeftS
    rw [List.dropWhile_cons, hp]
    rfl
theorem atom_name (c : UInt8) : nameC (lowB c) = true := by
  have h : ∀ n : Nat, n < 26 → nameC (97 + UInt8.ofNat n) = true := by decide +kernel
  have := h (c.toNat % 26) (Nat.mod_lt _ (by decide))
  have e : lowB c = 97 + UInt8.ofNat (c.toNat % 26) := by
    unfold lowB
    congr 1
    apply UInt8.toNat_inj.1
    rw [UInt8.toNat_mod]
    have : c.toNat % 26 < 26 := Nat.mod_lt _ (by decide)
    show c.toNat % 26 = (c.toNat % 26) % 256
    omega
  rw [e]; exact this
theorem word_name (l : List UInt8) : nameOK (wordL l) = true := by
  rw [nameOK_eq]
  have hne := word_ne l
  have h1 : (wordL l).all nameC = true := by
    unfold wordL
    split
    · decide
    · rw [List.all_map]
      exact List.all_eq_true.2 fun c _ => atom_name c
  rw [h1]
  cases hw : wordL l with
  | nil => exact absurd hw hne
  | cons a b => rfl
theorem nameC_ne {c : UInt8} (h : nameC c = true) : c ≠ 13 ∧ c ≠ 10 ∧ c ≠ 58 ∧ c ≠ 32 ∧ c ≠ 9 := by
  refine ⟨?_, ?_, ?_, ?_, ?_⟩ <;> (rintro rfl; exact absurd h (by decide))
theorem name_all {l : List UInt8} (h : nameOK l = true) : (∀ c ∈ l, nameC c = true) ∧ l.isEmpty = false := by
  rw [nameOK_eq, Bool.and_eq_true] at h
  exact ⟨List.all_eq_true.1 h.1, by simpa using h.2⟩
theorem crlf_append : ∀ (x y : List UInt8), 13 ∉ x → sepL [13, 10] (x ++ y) = none ∨ sepL [13, 10] y ≠ none
  | [], y, _ => by
    cases h : sepL [13, 10] y with
    | none => exact .inl h
    | some p => exact .inr (by simp)
  | c :: x, y, h => by
    have hx : 13 ∉ x := fun e => h (List.mem_cons_of_mem _ e)
    rcases crlf_append x y hx with h1 | h1
    · left
      have hp : ¬ [13, 10].isPrefixOf (c :: (x ++ y)) = true := by
        intro h2
        simp [List.isPrefixOf] at h2
        exact h (by rw [← h2.1]; exact List.mem_cons_self ..)
      show sepL [13, 10] (c :: (x ++ y)) = none
      rw [sepL, if_neg hp, h1]; rfl
    · exact .inr h1
theorem crlf_line {n v : List UInt8} (hn : nameOK n = true) (hv : sepL [13, 10] v = none) : sepL [13, 10] (n ++ [58, 32] ++ v) = none := by
  have h13 : 13 ∉ n ++ [58, 32] := by
    intro h
    rcases List.mem_append.1 h with h | h
    · exact (nameC_ne ((name_all hn).1 13 h)).1 rfl
    · exact absurd h (by decide)
  rcases crlf_append (n ++ [58, 32]) v h13 with h | h
  · exact h
  · exact absurd hv h
/-- a field as it was shown, read -/
def rawF (f : Fld) : Fld := (f.1, 32 :: f.2)
theorem parse_shown : ∀ (fs : List Fld) (i : Nat) (acc : List Fld) (rest : List UInt8), (∀ f ∈ fs, Good f) → acc.length + fs.length ≤ 30 →
    parseL i acc (showF fs ++ rest) = parseL (i + fs.length) (acc ++ fs.map rawF) rest
  | [], i, acc, rest, _, _ => by
    show parseL i acc rest = parseL i (acc ++ []) rest
    rw [List.append_nil]
  | f :: fs, i, acc, rest, hg, hl => by
    obtain ⟨g1, g2, g3⟩ := hg f (List.mem_cons_self ..)
    obtain ⟨ha, he⟩ := name_all g1
    have hsplit : showF (f :: fs) ++ rest = (f.1 ++ [58, 32] ++ f.2) ++ 13 :: 10 :: (showF fs ++ rest) := by
      show (fieldL f ++ showF fs) ++ rest = _
      unfold fieldL
      simp
    have hs := sep_crlf (f.1 ++ [58, 32] ++ f.2) (showF fs ++ rest) (crlf_line g1 g2)
    rw [← hsplit] at hs
    have hne : (f.1 ++ [58, 32] ++ f.2).isEmpty = false := by simp
    have hhd : isBlank ((f.1 ++ [58, 32] ++ f.2).headD 0) = false := by
      cases hf : f.1 with
      | nil => rw [hf] at he; cases he
      | cons a b =>
        have := nameC_ne (ha a (by rw [hf]; exact List.mem_cons_self ..))
        show isBlank a = false
        unfold isBlank
        rw [beq_eq_false_iff_ne.2 this.2.2.2.1, beq_eq_false_iff_ne.2 this.2.2.2.2]; rfl
    have h58 : sepL [58] (f.1 ++ [58, 32] ++ f.2) = some (f.1, 32 :: f.2) := by
      have := sep_byte 58 f.1 (32 :: f.2) (fun h => (nameC_ne (ha 58 h)).2.2.1 rfl)
      rw [← this]
      simp
    simp only [List.length_cons] at hl
    rw [parse_field hs hne (by rw [hhd]; rfl) h58 g1 (by omega), parse_shown fs (i + 1) (acc ++ [(f.1, 32 :: f.2)]) rest (fun f' h => hg f' (List.mem_cons_of_mem _ h)) (by simp; omega)]
    rw [List.append_assoc]
    show parseL (i + 1 + fs.length) (acc ++ (rawF f :: fs.map rawF)) rest = _
    rw [show i + 1 + fs.length = i + (fs.length + 1) by omega]
    rfl
theorem raw_trim (fs : List Fld) (hg : ∀ f ∈ fs, Good f) : (fs.map rawF).map trimF = fs := by
  rw [List.map_map]
  conv => rhs; rw [← List.map_id fs]
  refine List.map_congr_left fun f hf => ?_
  show (f.1, trimV (32 :: f.2)) = f
  rw [trim_blank, (hg f hf).2.2]
theorem parse_show (fs : List Fld) (body : List UInt8) (hg : ∀ f ∈ fs, Good f) (hl : fs.length ≤ 30) : parseL 0 [] (showL fs body) = ((fs, body), 0, 0) := by
  have e : showL fs body = showF fs ++ 13 :: 10 :: body := by unfold showL; simp
  rw [e, parse_shown fs 0 [] _ hg (by simpa using hl), List.nil_append]
  have := parse_end (i := 0 + fs.length) (fs := fs.map rawF) (s := 13 :: 10 :: body) (rest := body) rfl
  rw [this, raw_trim fs hg]
/-- the fields that Message makes may be -/
theorem msg_good (x : Nat → Nat → ByteArray) (k : Nat) : ∀ f ∈ msgL x k, Good f := by
  intro f hf
  obtain ⟨i, _, rfl⟩ := List.mem_map.1 hf
  exact ⟨word_name _, value_crlf _, value_trim _⟩
theorem msg_size (x : Nat → Nat → ByteArray) (k : Nat) : (showF (msgL x k)).length ≤ 52 * k := by
  induction k with
  | zero => simp [msgL, showF]
  | succ k ih =>
    rw [msgL_snoc, showF_snoc, List.length_append]
    have h1 : (wordL (x k 0).data.toList).length ≤ 8 := wordL_le _
    have h2 : (valueL (x k 1).data.toList).length ≤ 40 := valueL_len _
    have h3 : (fieldL (msgF x k)).length = (wordL (x k 0).data.toList).length + (valueL (x k 1).data.toList).length + 4 := by
      unfold fieldL msgF
      simp only [List.length_append, List.length_cons, List.length_nil]
      omega
    omega
theorem showL_len (fs : List Fld) (b : List UInt8) : (showL fs b).length = (showF fs).length + 2 + b.length := by
  unfold showL; simp only [List.length_append, List.length_cons, List.length_nil]
/-- Show, of a message that is short enough -/
theorem show_walk (fs : List Fld) (v : Value) (body RES : ByteArray) (m : Int) (w : World) (hR : RES = ⟨(showL fs body.data.toList).toArray⟩) (hv : FldsAt w v fs) (hgood : ∀ f ∈ fs, Good f) (hlen : fs.length ≤ 30) (hsz : (showF fs).length + 2 + body.size ≤ 2000) (hm : w.cell? ⟨0, 0, none⟩ = some (.int .i64 m)) :
    Calls Tryd.prog 23 #[.agg #[v, .string body]] w fun e w' => e = .returned (.tuple #[.string RES, .int .i64 0]) ∧ Below w.heap.size w w' := by
  have h := mshow_any fs v body m w hv hgood hlen (by omega) hm
  have hl : ¬ 2000 < (showL fs body.data.toList).length := by rw [showL_len]; have : body.data.toList.length = body.size := by simp
                                                              omega
  rw [if_neg hl, ← hR] at h
  exact h
theorem mcheck_walk (fs : List Fld) (v : Value) (body : ByteArray) (m : Int) (w : World) (hv : FldsAt w v fs) (hgood : ∀ f ∈ fs, Good f) (hlen : fs.length ≤ 30) (hsz : (showF fs).length + 2 + body.size ≤ 2000) (hm : w.cell? ⟨0, 0, none⟩ = some (.int .i64 m)) :
    Calls Tryd.prog 25 #[.agg #[v, .string body]] w fun e w' => e = .returned (.int .i64 0) ∧ Below w.heap.size w w' := by
  have h := mcheck_any fs v body m w hv hgood hlen (by omega) hm
  have hl : ¬ 2000 < (showL fs body.data.toList).length := by rw [showL_len]; have : body.data.toList.length = body.size := by simp
                                                              omega
  rw [if_neg hl] at h
  exact h
/-- Parse, of a text that is parsed to a message -/
theorem parse_walk (S B : ByteArray) (fs : List Fld) (m : Int) (w : World) (hs : S.size ≤ 2000) (h : parseL 0 [] S.data.toList = ((fs, B.data.toList), 0, 0)) (hm : w.cell? ⟨0, 0, none⟩ = some (.int .i64 m)) :
    Calls Tryd.prog 22 #[.string S] w fun e w' => (∃ v, e = .returned (.tuple #[.agg #[v, .string B], .int .i64 0, .int .i64 0]) ∧ FldsAt w' v fs) ∧ Below w.heap.size w w' := by
  refine (parse_any S m w hs hm).mono ?_
  rintro e w' ⟨⟨v, he, hv⟩, hb⟩
  rw [h] at he hv
  exact ⟨⟨v, he, FldsAt.of_row hv⟩, hb⟩
theorem parse_back (S B : ByteArray) (fs : List Fld) (hS : S = ⟨(showL fs B.data.toList).toArray⟩) (hg : ∀ f ∈ fs, Good f) (hl : fs.length ≤ 30) : parseL 0 [] S.data.toList = ((fs, B.data.toList), 0, 0) := by
  rw [hS]
  exact parse_show fs B.data.toList hg hl
theorem message_walk (a : Option Addr) (len cap : Nat) (x : Nat → Nat → ByteArray) (body BD : ByteArray) (w : World) (hBD : BD = ⟨(body.data.toList.take 200).toArray⟩) (hx : StrRows w a len 2 x) (hlen : len ≤ maxLen) (hbody : body.size ≤ maxLen) :
    Calls Tryd.prog 21 #[.slice a len cap, .string body] w fun e w' => (∃ v, e = .returned (.agg #[v, .string BD]) ∧ FldsAt w' v (msgL x (min len 6))) ∧ Below w.heap.size w w' := by
  rw [hBD]
  refine (message_any a len cap x body w hx hlen hbody).mono ?_
  rintro e w' ⟨⟨v, he, hv⟩, hb⟩
  refine ⟨⟨v, he, FldsAt.of_row (base := w.heap.size) ?_⟩, hb⟩
  rw [msgL_len]
  exact hv
theorem take_size (body BD : ByteArray) (k : Nat) (hBD : BD = ⟨(body.data.toList.take k).toArray⟩) : BD.size ≤ k := by
  rw [hBD]
  show (List.toArray _).size ≤ k
  rw [List.size_toArray, List.length_take]
  omega
end Go.Proofs.YtkchoempejdleaaDoor
