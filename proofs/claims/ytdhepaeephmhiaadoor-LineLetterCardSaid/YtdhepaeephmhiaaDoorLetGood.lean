/-
  DERIVED. Messages that Message makes may be; Show, Check, Message of such ones: contracts.
-/
import Derived.Test.YtdhepaeephmhiaaDoorMCheck
import Derived.Test.YtdhepaeephmhiaaDoorMessage
import Derived.Test.YtdhepaeephmhiaaDoorTwo
namespace Go.Proofs.YtdhepaeephmhiaaDoor
open Go.RowKit

theorem atom_name (c : UInt8) : nameC (lowB c) = true := by
  have h : ∀ n : Nat, n < 26 → nameC (97 + UInt8.ofNat n) = true := by decide +kernel
  have := h (c.toNat % 26) (Nat.mod_lt _ (by decide))
  have e : lowB c = 97 + UInt8.ofNat (c.toNat % 26) := by
    unfold lowB
    congr 1
    apply UInt8.toNat_inj.1
    rw [UInt8.toNat_mod]
    have : c.toNat % 26 < 26 := Nat.mod_lt _ (by decide)
    show c.toNat % 26 = (c.toNat % 26) % 256
    omega
  rw [e]; exact this
theorem word_name (l : List UInt8) : nameOK (wordL l) = true := by
  rw [nameOK_eq]
  have hne := word_ne l
  have h1 : (wordL l).all nameC = true := by
    unfold wordL
    split
    · decide
    · rw [List.all_map]
      exact List.all_eq_true.2 fun c _ => atom_name c
  rw [h1]
  cases hw : wordL l with
  | nil => exact absurd hw hne
  | cons a b => rfl
/-- the fields that Message makes may be -/
theorem msg_good (x : Nat → Nat → ByteArray) (k : Nat) : ∀ f ∈ msgL x k, Good f := by
  intro f hf
  obtain ⟨i, _, rfl⟩ := List.mem_map.1 hf
  exact ⟨word_name _, value_crlf _, value_trim _⟩
theorem msg_size (x : Nat → Nat → ByteArray) (k : Nat) : (showF (msgL x k)).length ≤ 52 * k := by
  induction k with
  | zero => simp [msgL, showF]
  | succ k ih =>
    rw [msgL_snoc, showF_snoc, List.length_append]
    have h1 : (wordL (x k 0).data.toList).length ≤ 8 := wordL_le _
    have h2 : (valueL (x k 1).data.toList).length ≤ 40 := valueL_len _
    have h3 : (fieldL (msgF x k)).length = (wordL (x k 0).data.toList).length + (valueL (x k 1).data.toList).length + 4 := by
      unfold fieldL msgF
      simp only [List.length_append, List.length_cons, List.length_nil]
      omega
    omega
theorem showL_len (fs : List Fld) (b : List UInt8) : (showL fs b).length = (showF fs).length + 2 + b.length := by
  unfold showL; simp only [List.length_append, List.length_cons, List.length_nil]
/-- Show, of a message that is short enough -/
theorem show_walk (fs : List Fld) (v : Value) (body RES : ByteArray) (m : Int) (w : World) (hR : RES = ⟨(showL fs body.data.toList).toArray⟩) (hv : FldsAt w v fs) (hgood : ∀ f ∈ fs, Good f) (hlen : fs.length ≤ 30) (hsz : (showF fs).length + 2 + body.size ≤ 2000) (hm : w.cell? ⟨0, 0, none⟩ = some (.int .i64 m)) :
    Calls Tryd.prog 29 #[.agg #[v, .string body]] w fun e w' => e = .returned (.tuple #[.string RES, .int .i64 0]) ∧ Below w.heap.size w w' := by
  have h := mshow_any fs v body m w hv hgood hlen (by omega) hm
  have hl : ¬ 2000 < (showL fs body.data.toList).length := by rw [showL_len]; have : body.data.toList.length = body.size := by simp
                                                              omega
  rw [if_neg hl, ← hR] at h
  exact h
theorem mcheck_walk (fs : List Fld) (v : Value) (body : ByteArray) (m : Int) (w : World) (hv : FldsAt w v fs) (hgood : ∀ f ∈ fs, Good f) (hlen : fs.length ≤ 30) (hsz : (showF fs).length + 2 + body.size ≤ 2000) (hm : w.cell? ⟨0, 0, none⟩ = some (.int .i64 m)) :
    Calls Tryd.prog 51 #[.agg #[v, .string body]] w fun e w' => e = .returned (.int .i64 0) ∧ Below w.heap.size w w' := by
  have h := mcheck_any fs v body m w hv hgood hlen (by omega) hm
  have hl : ¬ 2000 < (showL fs body.data.toList).length := by rw [showL_len]; have : body.data.toList.length = body.size := by simp
                                                              omega
  rw [if_neg hl] at h
  exact h
theorem message_walk (a : Option Addr) (len cap : Nat) (x : Nat → Nat → ByteArray) (body BD : ByteArray) (w : World) (hBD : BD = ⟨(body.data.toList.take 200).toArray⟩) (hx : StrRows w a len 2 x) (hlen : len ≤ maxLen) (hbody : body.size ≤ maxLen) :
    Calls Tryd.prog 27 #[.slice a len cap, .string body] w fun e w' => (∃ v, e = .returned (.agg #[v, .string BD]) ∧ FldsAt w' v (msgL x (min len 6))) ∧ Below w.heap.size w w' := by
  rw [hBD]
  refine (message_any a len cap x body w hx hlen hbody).mono ?_
  rintro e w' ⟨⟨v, he, hv⟩, hb⟩
  refine ⟨⟨v, he, FldsAt.of_row (base := w.heap.size) ?_⟩, hb⟩
  rw [msgL_len]
  exact hv
theorem take_size (body BD : ByteArray) (k : Nat) (hBD : BD = ⟨(body.data.toList.take k).toArray⟩) : BD.size ≤ k := by
  rw [hBD]
  show (List.toArray _).size ≤ k
  rw [List.size_toArray, List.length_take]
  omega
end Go.Proofs.YtdhepaeephmhiaaDoor
