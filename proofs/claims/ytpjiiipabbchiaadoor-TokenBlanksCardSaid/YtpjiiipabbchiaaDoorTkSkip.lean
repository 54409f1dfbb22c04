/-
  DERIVED. (*cutter).skip, (*cutter).word of token: the walks.
-/
import Derived.Test.YtpjiiipabbchiaaDoorTkSpan
import Derived.Test.YtpjiiipabbchiaaDoorShelf
import Derived.IntWalk
namespace Go.Proofs.YtpjiiipabbchiaaDoor.Tk
open Go.RowKit

theorem RdrL.len {w : World} {b : Nat} {s : ByteArray} {l : List UInt8} (h : RdrL w b s l) : s.size - posAt w b = l.length := by
  obtain ⟨n, h1, h2⟩ := h
  rw [h2.pos]; have := h1.1; omega
theorem RdrL.lt {w : World} {b : Nat} {s : ByteArray} {l : List UInt8} (h : RdrL w b s l) : b < w.heap.size := by
  obtain ⟨n, h1, h2⟩ := h; exact h2.2.2.2
/-- the word that stands next -/
theorem word_at (b : Nat) (s : ByteArray) (l : List UInt8) (w : World) (hs : s.size ≤ 100000) (h : RdrL w b s l) :
    Calls Tryd.prog 27 #[.pointer (some ⟨b, 0, none⟩)] w fun e w' => e = .returned (.string ⟨(l.takeWhile isWd).toArray⟩) ∧ RdrL w' b s (l.dropWhile isWd) ∧ w.grownBy w' (some b) := by
  have H := Lib.hid (span_word b s l w hs h)
  clear h
  go_enter Tryd.func27, Tryd.ntmps27
  go_wp2_with fail
  refine H.out.mono ?_
  rintro e w' ⟨rfl, h1, h2⟩
  go_wp2
  go_ret
  exact ⟨rfl, h1, h2⟩
theorem ext_rest {s : ByteArray} {n : Nat} {l : List UInt8} (h : Rest s n l) : (s.extract n s.size).data.toList = l := by
  rw [Go.Lib.extract_eq, h.2, List.take_of_length_le (by have := h.1; omega)]
theorem pre_opens (r : List UInt8) : Go.Lib.hasPrefix r [47, 42] = opens r := by
  unfold Go.Lib.hasPrefix opens
  match r with
  | [] => rfl
  | [a] => simp [List.isPrefixOf]
  | a :: c :: t =>
    by_cases h1 : a = 47
    · subst h1
      by_cases h2 : c = 42
      · subst h2; simp
      · have : (decide (42 = c)) = false := decide_eq_false (fun e => h2 e.symm)
        simp only [List.isPrefixOf]
        split
        · rename_i h; simp at h; exact absurd h.1 h2
        · simp; intro e; exact absurd e.symm h2
    · simp only [List.isPrefixOf]
      split
      · rename_i h; simp at h; exact absurd h.1 h1
      · simp; intro e; exact absurd e.symm h1
theorem endC_index : ∀ l : List UInt8, match endC l with
    | none => Go.Lib.index l [42, 47] = -1
    | some t => ∃ i : Nat, Go.Lib.index l [42, 47] = (i : Int) ∧ t = l.drop (i + 2) ∧ i + 2 ≤ l.length
  | [] => rfl
  | c :: l => by
    have ih := endC_index l
    rw [endC]
    by_cases h : c = 42 ∧ l.head? = some 47
    · rw [if_pos h]
      obtain ⟨rfl, h2⟩ := h
      cases l with
      | nil => cases h2
      | cons d t =>
        obtain rfl : d = 47 := by simpa using h2
        exact ⟨0, by unfold Go.Lib.index; rw [if_pos (by simp)]; rfl, rfl, by simp⟩
    · rw [if_neg h]
      have hp : List.isPrefixOf [42, 47] (c :: l) = false := by
        rw [Bool.eq_false_iff]
        intro e
        cases l with
        | nil => simp at e
        | cons d t =>
          simp only [List.isPrefixOf, Bool.and_eq_true, beq_iff_eq, and_true] at e
          exact h ⟨e.1.symm, by rw [e.2]; rfl⟩
      cases he : endC l with
      | none =>
        rw [he] at ih
        show Go.Lib.index (c :: l) [42, 47] = -1
        unfold Go.Lib.index
        rw [hp, ih]; rfl
      | some t =>
        rw [he] at ih
        obtain ⟨i, h1, h2, h3⟩ := ih
        refine ⟨i + 1, ?_, by rw [h2]; rfl, by rw [List.length_cons]; omega⟩
        unfold Go.Lib.index
        rw [hp, h1]
        have : ((i : Int) == -1) = false := beq_eq_false_iff_ne.2 (by omega)
        rw [this]
        simp

theorem by_set4 {w : World} {b n n' i : Nat} {s : ByteArray} (h : Rdr w b s n) (e : n' = n + 2 + (i + 2) := by rfl) : Rdr (w.setCell ⟨b, 1, none⟩ (.int .i64 ((n : Int) + ((i : Int) + 4)))) b s n' := by
  have := h.set n'
  rwa [show ((n' : Nat) : Int) = (n : Int) + ((i : Int) + 4) by omega] at this
theorem quiet_add_same {P : Program} {f : FuncId} {args : Array Value} {w : World} {a n : Nat} {v : Value}
    (h : Calls P f args (w.drewN (a + n)) fun e w' => e = .returned v ∧ w' = w.drewN (a + n)) :
    Calls P f args (w.drewN (a + n)) fun e w'' => e = .returned v ∧ ∃ m, w'' = w.drewN (a + m) :=
  h.mono fun _ _ ⟨he, hm⟩ => ⟨he, n, hm⟩
theorem cell_else' {w w' : World} {b c o : Nat} {v : Value} (g : w.grownBy w' (some b)) (h : w.cell? ⟨c, o, none⟩ = some v) (hc : c < b) : w'.cell? ⟨c, o, none⟩ = some v :=
  (World.cell?_of_block (w := w) (a := ⟨c, o, none⟩) (g.block c (World.block_lt_of_cell? _ _ h) (by intro e; have := Option.some.inj e; omega))).trans h

set_option maxHeartbeats 8000000 in
set_option maxRecDepth 20000 in
theorem skip_any (b : Nat) (s : ByteArray) (l : List UInt8) (m : Int) (w : World) (hs : s.size ≤ 100000) (h : RdrL w b s l) (hb0 : 0 < b) (hm : w.cell? ⟨0, 0, none⟩ = some (.int .i64 m)) :
    Calls Tryd.prog 21 #[.pointer (some ⟨b, 0, none⟩)] w fun e w' => e = .returned (.bool (skipL l).1) ∧ RdrL w' b s (skipL l).2 ∧ w.grownBy w' (some b) := by
  have HM := Lib.hid hm; have HR := Lib.hid h
  clear hm h
  go_enter Tryd.func21, Tryd.ntmps21
  go_wp2_with fail
  go_loopw [4] (fun _ wr => ∃ l', RdrL wr b s l' ∧ Hid (skipL l' = skipL l) ∧ w.grownBy wr (some b)) (fun _ wr => s.size - posAt wr b)
  case atStart => exact ⟨l, HR.out, rfl, World.grownBy.refl _ _⟩
  case round =>
    obtain ⟨l', hrd, hsk, hg⟩ := hrel
    have hmeas := Lib.hid hrd.len
    have HS := Lib.hid (span_ws b s l' wr hs hrd)
    have HG := Lib.hid hg
    clear hrd hg
    go_wp2_with fail
    refine HS.out.mono ?_
    rintro e w1 ⟨rfl, hrd1, hg1⟩
    have HG1 := Lib.hid (Go.Lib.grownBy_trans HG.out hg1)
    clear HS hg1 HG
    have hdl := drop_le isWs l'
    obtain ⟨r, hr⟩ : ∃ r, r = l'.dropWhile isWs := ⟨_, rfl⟩
    rw [← hr] at hrd1 hdl
    have HRr := Lib.hid hr
    clear hr
    obtain ⟨n, hre, hrr⟩ := hrd1
    have HN := Lib.hid (fun (w' : World) (h' : Rdr w' b s n) => next_any b n s r w' hs hre h')
    have HRD := Lib.hid hrr; have HRE := Lib.hid hre
    clear hrr hre
    go_wp2_with fail
    refine (HN.out _ HRD.out).mono ?_
    rintro e w2 ⟨rfl, hkk⟩
    clear HN
    have HRD2 : Hid (Rdr w2 b s n) := by obtain ⟨kk, rfl⟩ := hkk; exact HRD.out.drewN kk
    have HG2 : Hid (w.grownBy w2 (some b)) := by obtain ⟨kk, rfl⟩ := hkk; exact Go.Lib.grownBy_below HG1.out (below_drewN w1 kk)
    clear hkk
    have hnn := HRE.out.le
    by_cases hh : hdOf (· == 35) r = true
    · have q : (((nextL r).toNat : Int) == 35) = true := by
        cases r with
        | nil => cases hh
        | cons c t =>
          have : c = 35 := by simpa [hdOf] using hh
          rw [this]; rfl
      have HSK : Hid (skipL (r.dropWhile noNl) = skipL l) := by
        unfold Hid
        rw [← hsk.out, HRr.out]
        exact (skip_hash (by rw [← HRr.out]; exact hh)).symm
      have hlt := hash_lt hh
      have HSN := Lib.hid (span_nl b s r w2 hs ⟨n, HRE.out, HRD2.out⟩)
      have HHH := Lib.hid hh
      clear hh hsk
      go_wp2_with fail
      refine HSN.out.mono ?_
      rintro e w3 ⟨rfl, hrd3, hg3⟩
      have HG3 := Lib.hid (Go.Lib.grownBy_trans HG2.out hg3)
      have HRD3 := Lib.hid hrd3
      clear hrd3 hg3 HSN
      go_wp2_with fail
      go_roundw
      case rel => exact ⟨r.dropWhile noNl, HRD3.out, HSK, HG3.out⟩
      case measure =>
        have h1 := HRD3.out.len
        have h2 := hmeas.out
        omega
    · have hh' : hdOf (· == 35) r = false := by simpa using hh
      have q : (((nextL r).toNat : Int) == 35) = false := by
        cases r with
        | nil => rfl
        | cons c t =>
          have : c ≠ 35 := by simpa [hdOf] using hh'
          exact beq_eq_false_iff_ne.2 (fun e => this (UInt8.toNat_inj.1 (by
            have e' : (c.toNat : Int) = 35 := e
            show c.toNat = 35
            omega)))
      have HHH := Lib.hid hh'
      have hpx : (s.extract n s.size).data.toList = r := ext_rest HRE.out
      have HPF : Hid (∀ w, Calls Tryd.prog 35 #[.string (s.extract n s.size), .string ⟨#[47, 42]⟩] w fun e w' => e = .returned (.bool (opens r)) ∧ w' = w) := by
        intro w
        have := Tryd.strings_HasPrefix (s.extract n s.size) ⟨#[47, 42]⟩ w
        rw [hpx] at this
        rw [← pre_opens]; exact this
      clear hh hh' hpx
      obtain ⟨c0, c1, f1, hbl⟩ := HRD2.out
      have i1 : (0 : Int) ≤ n := by omega
      have i2 : (n : Int) ≤ s.size := by omega
      by_cases ho : opens r = true
      · rw [ho] at HPF
        have hei := endC_index (r.drop 2)
        have HO := Lib.hid ho
        have hrl : 2 ≤ r.length := by
          have ho2 := HO.out
          unfold opens at ho2
          split at ho2
          · simp
          · cases ho2
        have hre2 := HRE.out.drop 2 hrl
        have hpx2 : (s.extract (n + 2) s.size).data.toList = r.drop 2 := ext_rest hre2
        have hn2 := hre2.le
        have hw2 : IntKind.i64.wrap ((n : Int) + 2) = (n : Int) + 2 := IntWalk.i64_in _ (by omega)
        have ht2 : ((n : Int) + 2).toNat = n + 2 := by omega
        have i3 : (0 : Int) ≤ (n : Int) + 2 := by omega
        have i4 : (n : Int) + 2 ≤ s.size := by omega
        have HM2 := Lib.hid (cell_else' HG2.out HM.out hb0)
        have hxs : (s.extract (n + 2) s.size).size < 4294967281 := by rw [ByteArray.size_extract]; omega
        cases he : endC (r.drop 2) with
        | none =>
          rw [he] at hei
          have HIX : Hid (∀ w, w.cell? ⟨0, 0, none⟩ = some (.int .i64 m) → Calls Tryd.prog 36 #[.string (s.extract (n + 2) s.size), .string ⟨#[42, 47]⟩] w fun e w' => e = .returned (.int .i64 (-1)) ∧ w' = w) := by
            intro w hm
            have := Tryd.strings_Index (s.extract (n + 2) s.size) ⟨#[42, 47]⟩ m w hxs hm
            rw [hpx2] at this
            rw [← hei]; exact this
          have HFIN : Hid (skipL l = (false, r)) := by
            unfold Hid
            rw [← hsk.out, HRr.out]
            exact skip_torn (by rw [← HRr.out]; exact HHH.out) (by rw [← HRr.out]; exact HO.out) (by rw [← HRr.out]; exact he)
          clear he hei ho hpx2 hre2 hsk hxs
          go_wp2_with fail
          go_quiet ((go_at_call 35; exact Calls.quiet_of_same (HPF.out _)))
          go_wp2_with fail
          go_quiet ((go_at_call 36; exact quiet_add_same (HIX.out _ HM2.out)))
          go_wp2_with fail
          go_ret
          rw [HFIN.out]
          first
            | exact ⟨rfl, ⟨n, HRE.out, HRD2.out.drewN _⟩, Go.Lib.grownBy_below HG2.out (below_drewN _ _)⟩
            | exact ⟨rfl, ⟨n, HRE.out, (HRD2.out.drewN _).drewN _⟩, Go.Lib.grownBy_below HG2.out (bt (below_drewN _ _) (below_drewN _ _))⟩
        | some t =>
          rw [he] at hei
          obtain ⟨i, hi1, hi2, hi3⟩ := hei
          rw [List.length_drop] at hi3
          have hre4 := hre2.drop (i + 2) (by rw [List.length_drop]; omega)
          rw [← hi2] at hre4
          have hrb := HRE.out.1
          have HIX : Hid (∀ w, w.cell? ⟨0, 0, none⟩ = some (.int .i64 m) → Calls Tryd.prog 36 #[.string (s.extract (n + 2) s.size), .string ⟨#[42, 47]⟩] w fun e w' => e = .returned (.int .i64 i) ∧ w' = w) := by
            intro w hm
            have := Tryd.strings_Index (s.extract (n + 2) s.size) ⟨#[42, 47]⟩ m w hxs hm
            rw [hpx2] at this
            rw [← hi1]; exact this
          have HSK : Hid (skipL t = skipL l) := by
            unfold Hid
            rw [← hsk.out]
            exact (skip_open (by rw [← HRr.out]; exact HHH.out) (by rw [← HRr.out]; exact HO.out) (by rw [← HRr.out]; exact he)).symm
          have HRE4 := Lib.hid hre4
          have htl : t.length + 4 ≤ r.length := by have := hre4.1; omega
          have dni : decide ((i : Int) < 0) = false := decide_eq_false (by omega)
          have hib : (i : Int) ≤ 100000 := by omega
          clear he ho hpx2 hre2 hsk hxs hi1 hi2 hre4 hrb
          go_wp2_with fail
          go_quiet ((go_at_call 35; exact Calls.quiet_of_same (HPF.out _)))
          go_wp2_with fail
          go_quiet ((go_at_call 36; exact quiet_add_same (HIX.out _ HM2.out)))
          go_wp2_with fail
          go_roundw
          case rel => exact ⟨t, ⟨n + 2 + (i + 2), HRE4.out, by first | exact by_set4 (HRD2.out.drewN _) | exact by_set4 ((HRD2.out.drewN _).drewN _)⟩, HSK, by first | exact Go.Lib.grownBy_setB (Go.Lib.grownBy_below HG2.out (below_drewN _ _)) 1 _ | exact Go.Lib.grownBy_setB (Go.Lib.grownBy_below HG2.out (bt (below_drewN _ _) (below_drewN _ _))) 1 _⟩
          case measure =>
            have h2 := hmeas.out
            have h1 := HRE4.out.1
            first
              | rw [(by_set4 (n' := n + 2 + (i + 2)) (HRD2.out.drewN _)).pos]
              | rw [(by_set4 (n' := n + 2 + (i + 2)) ((HRD2.out.drewN _).drewN _)).pos]
            omega
      · have ho' : opens r = false := by simpa using ho
        rw [ho'] at HPF
        have HFIN : Hid (skipL l = (true, r)) := by
          unfold Hid
          rw [← hsk.out, HRr.out]
          exact skip_end (by rw [← HRr.out]; exact HHH.out) (by rw [← HRr.out]; exact ho')
        clear ho ho' hsk
        go_wp2_with fail
        go_quiet ((go_at_call 35; exact Calls.quiet_of_same (HPF.out _)))
        go_wp2_with fail
        go_ret
        rw [HFIN.out]
        exact ⟨rfl, ⟨n, HRE.out, HRD2.out.drewN _⟩, Go.Lib.grownBy_below HG2.out (below_drewN _ _)⟩
end Go.Proofs.YtpjiiipabbchiaaDoor.Tk
