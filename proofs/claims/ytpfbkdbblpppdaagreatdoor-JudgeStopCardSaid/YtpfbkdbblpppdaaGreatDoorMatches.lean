/-
  DERIVED. 'matches' of glob: what it answers of a text and a list of pieces.
-/
import Derived.Test.YtpfbkdbblpppdaaGreatDoorGlob
import Derived.OwnWalk
import Derived.Lib.Strings
import Derived.Test.YtpfbkdbblpppdaaGreatDoorPlainMatch
import Derived.Deep.QuietTactic
import Derived.BigQuiet
set_option linter.unusedVariables false
set_option linter.unusedSimpArgs false
namespace Go.Proofs.YtpfbkdbblpppdaaGreatDoor
open Go.RowKit

def Pc.cells (p : Pc) : List Value := [.int .u8 (p.c.toNat : Int), .bool p.one, .bool p.many]
def pcells (l : List Pc) : List Value := l.flatMap Pc.cells
theorem pcells_length (l : List Pc) : (pcells l).length = l.length * 3 := by
  induction l with
  | nil => rfl
  | cons a l ih => simp only [pcells, List.flatMap_cons, List.length_append, List.length_cons, Pc.cells, List.length_nil] at ih ⊢; omega
theorem pcells_append (l m : List Pc) : pcells (l ++ m) = pcells l ++ pcells m := by simp [pcells]
theorem pcells_get : ∀ (l : List Pc) (i : Nat) (h : i < l.length), (pcells l)[i * 3]? = some (.int .u8 (l[i].c.toNat : Int)) ∧ (pcells l)[i * 3 + 1]? = some (.bool l[i].one) ∧ (pcells l)[i * 3 + 2]? = some (.bool l[i].many)
  | p :: l, 0, _ => by simp [pcells, Pc.cells]
  | p :: l, i + 1, h => by
    have ih := pcells_get l i (by simpa using h)
    have e : ∀ j, (pcells (p :: l))[(i + 1) * 3 + j]? = (pcells l)[i * 3 + j]? := by
      intro j
      rw [show (i + 1) * 3 + j = 3 + (i * 3 + j) by omega]
      show (Pc.cells p ++ pcells l)[3 + (i * 3 + j)]? = _
      rw [List.getElem?_append_right (by simp [Pc.cells])]
      simp [Pc.cells]
    have e0 := e 0
    simp only [Nat.add_zero] at e0
    exact ⟨e0 ▸ ih.1, e 1 ▸ ih.2.1, e 2 ▸ ih.2.2⟩
/-- the star's slot -/
def stI : Option Nat → Int
  | none => -1
  | some q => q
def stOf (v : Value) : Option Nat := if intOf v < 0 then none else some (intOf v).toNat
theorem stOf_stI (so : Option Nat) : stOf (.int .i64 (stI so)) = so := by
  cases so with
  | none => rfl
  | some q => unfold stOf; show (if (q : Int) < 0 then none else some ((q : Int)).toNat) = some q; rw [if_neg (by omega)]; simp
theorem stOf_nat (q : Nat) : stOf (.int .i64 (q : Int)) = some q := stOf_stI (some q)
theorem toNat_succ (k : Nat) : ((k : Int) + 1).toNat = k + 1 := by omega

set_option maxHeartbeats 1000000 in
theorem matches_row (s : ByteArray) (g cap : Nat) (L : List Pc) (w : World) (hs : s.size ≤ 1000000) (hn : L.length ≤ 1000000)
    (hc : ∀ i (h : i < L.length), w.cell? ⟨g, i * 3, none⟩ = some (.int .u8 (L[i].c.toNat : Int)) ∧ w.cell? ⟨g, i * 3 + 1, none⟩ = some (.bool L[i].one) ∧ w.cell? ⟨g, i * 3 + 2, none⟩ = some (.bool L[i].many)) :
    Calls Tryz.prog 205 #[.string s, .slice (some ⟨g, 0, none⟩) L.length cap] w fun e w' => e = .returned (.bool (mt L s.data.toList)) ∧ ∃ n, w' = w.drewN n := by
  obtain ⟨S, hS⟩ : ∃ S, S = s.data.toList := ⟨_, rfl⟩
  have hlen : s.size = S.length := by rw [hS]; simp
  have hget : ∀ i (h : i < s.size) (h' : i < S.length), s[i] = S[i] := by intro i h h'; subst hS; rfl
  rw [← hS]
  have HC := Lib.hid hc; clear hc hS
  have HG := Lib.hid hget; clear hget
  have HLEN := Lib.hid hlen; clear hlen
  obtain ⟨n, hnn⟩ : ∃ n, n = L.length := ⟨_, rfl⟩
  rw [← hnn]
  have HN := Lib.hid hnn; 
  rw [← hnn] at hn
  clear hnn
  go_enter Tryz.func205, Tryz.ntmps205
  go_wp2
  go_loopw [5, 6, 7, 8] (fun i k st fr wr => ∃ (i' k' f' : Nat) (so : Option Nat) (m : Nat), i = .int .i64 i' ∧ k = .int .i64 k' ∧ st = .int .i64 (stI so) ∧ fr = .int .i64 f' ∧ Inv S L i' k' so f' ∧ wr = w.drewN m)
    (fun i k st fr _ => mmu s.size n (intOf i).toNat (stOf st) (intOf fr).toNat)
  case atStart => exact ⟨0, 0, 0, none, 0, rfl, rfl, rfl, rfl, inv_start S L, rfl⟩
  case round =>
    obtain ⟨i, k, f, so, m, rfl, rfl, rfl, rfl, hinv, rfl⟩ := hrel
    have hi := hinv.hi
    have hk := hinv.hk
    rw [← HLEN.out] at hi
    rw [← HN.out] at hk
    have HI := Lib.hid hinv; clear hinv
    by_cases hlt : i < s.size
    · by_cases hkn : k < n
      · have hkL : k < L.length := by rw [← HN.out]; exact hkn
        obtain ⟨c0, c1, c2⟩ := HC.out k hkL
        cases hm : L[k].many with
        | true =>
          rw [hm] at c2
          have HM := Lib.hid hm; clear hm
          go_wp2
          go_roundw
          case rel => exact ⟨i, k + 1, i, some k, m, rfl, by go_num, rfl, rfl, inv_star HI.out hkL HM.out, rfl⟩
          case measure =>
            have hmu := @mmu_star s.size n i k f so
            simp only [intOf, stOf_stI, stOf_nat, Int.toNat_natCast]
            exact hmu (by cases so with
              | none => rw [((HI.out).none' rfl).1]; exact Nat.zero_le _
              | some q => exact ((HI.out).some' q rfl).2.1) hkn (fun q hq => ((HI.out).some' q hq).1)
        | false =>
          rw [hm] at c2
          have HM := Lib.hid hm; clear hm
          cases h1 : L[k].one with
          | true =>
            rw [h1] at c1
            have HF : Hid (L[k].fits (S[i]'(by rw [← HLEN.out]; exact hlt)) = true) := by unfold Hid Pc.fits; rw [h1]; rfl
            clear h1
            go_wp2
            go_quiet (fail)
            go_wp2
            go_roundw
            case rel => exact ⟨i + 1, k + 1, f, so, _, by go_num, by go_num, rfl, rfl, inv_fit HI.out (by rw [← HLEN.out]; exact hlt) hkL HM.out HF.out, rfl⟩
            case measure => simp only [intOf, stOf_stI, Int.toNat_natCast, toNat_succ]; exact mmu_fit hlt
          | false =>
            rw [h1] at c1
            by_cases he : L[k].c = s[i]
            · have HF : Hid (L[k].fits (S[i]'(by rw [← HLEN.out]; exact hlt)) = true) := by unfold Hid Pc.fits; rw [h1, he, HG.out i hlt (by rw [← HLEN.out]; exact hlt)]; simp
              rw [he] at c0
              clear he h1
              go_wp2
              go_quiet (fail)
              go_wp2
              go_roundw
              case rel => exact ⟨i + 1, k + 1, f, so, _, by go_num, by go_num, rfl, rfl, inv_fit HI.out (by rw [← HLEN.out]; exact hlt) hkL HM.out HF.out, rfl⟩
              case measure => simp only [intOf, stOf_stI, Int.toNat_natCast, toNat_succ]; exact mmu_fit hlt
            · have HS : Hid (Stuck S L i k) := by
                refine ⟨by rw [← HLEN.out]; exact hlt, .inr ⟨hkL, by rw [← HLEN.out]; exact hlt, HM.out, ?_⟩⟩
                unfold Pc.fits
                rw [h1, ← HG.out i hlt (by rw [← HLEN.out]; exact hlt)]
                simpa using he
              have hd : ((L[k].c.toNat : Int) == (s[i].toNat : Int)) = false := by
                rw [beq_eq_false_iff_ne]; intro e; exact he (UInt8.toNat_inj.1 (by omega))
              clear he h1
              cases so with
              | none =>
                rw [show stI none = -1 from rfl]
                go_wp2
                go_quiet (fail)
                go_wp2
                go_ret
                exact ⟨by rw [inv_fail HI.out HS.out]; rfl, ⟨_, rfl⟩⟩
              | some q =>
                rw [show stI (some q) = (q : Int) from rfl]
                have hq : q < k := ((HI.out).some' q rfl).1
                have hf : f ≤ i := ((HI.out).some' q rfl).2.1
                go_wp2
                go_quiet (fail)
                go_wp2
                go_roundw
                case rel => exact ⟨f + 1, q + 1, f + 1, some q, _, by go_num, by go_num, rfl, by go_num, inv_back HI.out HS.out, rfl⟩
                case measure => simp only [intOf, stOf_nat, Int.toNat_natCast, toNat_succ]; exact mmu_back hf hlt
      · have HS : Hid (Stuck S L i k) := ⟨by rw [← HLEN.out]; exact hlt, .inl (by rw [← HN.out]; omega)⟩
        have hd : decide (k < n) = false := by simpa using hkn
        cases so with
        | none =>
          rw [show stI none = -1 from rfl]
          go_wp2
          go_quiet (fail)
          go_wp2
          go_ret
          exact ⟨by rw [inv_fail HI.out HS.out]; rfl, ⟨_, rfl⟩⟩
        | some q =>
          rw [show stI (some q) = (q : Int) from rfl]
          have hq : q < k := ((HI.out).some' q rfl).1
          have hf : f ≤ i := ((HI.out).some' q rfl).2.1
          go_wp2
          go_quiet (fail)
          go_wp2
          go_roundw
          case rel => exact ⟨f + 1, q + 1, f + 1, some q, _, by go_num, by go_num, rfl, by go_num, inv_back HI.out HS.out, rfl⟩
          case measure => simp only [intOf, stOf_nat, Int.toNat_natCast, toNat_succ]; exact mmu_back hf hlt
    · have HE : Hid (mt L S = mt (L.drop k) []) := by
        have hI := HI.out
        have e : i = S.length := by rw [← HLEN.out]; omega
        rw [e] at hI
        exact inv_end hI
      clear HI
      go_wp2_with fail
      go_loopw [6] (fun k wr => ∃ (k' : Nat), k' ≤ n ∧ k = .int .i64 k' ∧ Hid (mt L S = mt (L.drop k') []) ∧ wr = w.drewN m)
        (fun k _ => n - (intOf k).toNat)
      case atStart => exact ⟨k, hk, rfl, HE, rfl⟩
      case round =>
        clear HE hk
        obtain ⟨k, hk, rfl, HE, rfl⟩ := hrel
        by_cases hkn : k < n
        · have hkL : k < L.length := by rw [← HN.out]; exact hkn
          obtain ⟨c0, c1, c2⟩ := HC.out k hkL
          cases hm : L[k].many with
          | true =>
            rw [hm] at c2
            have HE2 : Hid (mt L S = mt (L.drop (k + 1)) []) := by
              unfold Hid
              rw [HE.out, mt_nil_all, mt_nil_all, List.drop_eq_getElem_cons hkL, List.all_cons, hm, Bool.true_and]
            clear hm
            go_wp2
            go_roundw
            case rel => exact ⟨k + 1, by omega, by go_num, HE2, trivial⟩
            case measure => simp [intOf]; omega
          | false =>
            rw [hm] at c2
            have HE2 : Hid (mt L S = false) := by
              unfold Hid
              rw [HE.out, mt_nil_all, List.drop_eq_getElem_cons hkL, List.all_cons, hm, Bool.false_and]
            clear hm
            have hne : ((k : Int) == (n : Int)) = false := by simp; omega
            go_wp2
            go_ret
            exact ⟨by rw [HE2.out]; rfl, ⟨_, rfl⟩⟩
        · obtain rfl : k = n := by omega
          have HE2 : Hid (mt L S = true) := by
            unfold Hid
            rw [HE.out, HN.out, List.drop_length]; rfl
          go_wp2
          go_ret
          exact ⟨by rw [HE2.out]; rfl, ⟨_, rfl⟩⟩

set_option maxHeartbeats 1000000 in
theorem matches_nil (s : ByteArray) (w : World) (hs : s.size ≤ 1000000) :
    Calls Tryz.prog 205 #[.string s, .slice none 0 0] w fun e w' => e = .returned (.bool (mt [] s.data.toList)) ∧ ∃ n, w' = w.drewN n := by
  by_cases h : 0 < s.size
  · have HM : Hid (mt [] s.data.toList = false) := by
      unfold Hid mt
      cases hl : s.data.toList with
      | nil =>
        have h1 : s.data.toList.length = 0 := by rw [hl]; rfl
        have h2 : s.data.toList.length = s.size := by simp
        omega
      | cons a l => rfl
    go_enter Tryz.func205, Tryz.ntmps205
    go_wp2
    refine wp_loop_rounds 1 ?_
    rw [rounds_succ]
    go_wp2
    go_quiet (fail)
    go_wp2
    go_ret
    exact ⟨by rw [HM.out]; rfl, ⟨_, rfl⟩⟩
  · have HM : Hid (mt [] s.data.toList = true) := by
      unfold Hid mt
      cases hl : s.data.toList with
      | nil => rfl
      | cons a l =>
        have h1 : s.data.toList.length = l.length + 1 := by rw [hl]; rfl
        have h2 : s.data.toList.length = s.size := by simp
        omega
    have h0 : s.size = 0 := by omega
    have hz : s.size ≤ 0 := by omega
    clear h0 h
    go_enter Tryz.func205, Tryz.ntmps205
    go_wp2
    refine wp_loop_rounds 1 ?_
    rw [rounds_succ]
    go_wp2
    refine wp_loop_rounds 1 ?_
    rw [rounds_succ]
    go_wp2
    go_ret
    exact ⟨by rw [HM.out]; rfl, ⟨0, rfl⟩⟩

theorem matches_own {w : World} {n₀ : Nat} {v : Value} {L : List Pc} (h : w.ownsRow n₀ 291 3 v L.length (pcells L)) (s : ByteArray) (hs : s.size ≤ 1000000) (hn : L.length ≤ 1000000) :
    Calls Tryz.prog 205 #[.string s, v] w fun e w' => e = .returned (.bool (mt L s.data.toList)) ∧ ∃ n, w' = w.drewN n := by
  have h0 := h
  rcases h.2 with ⟨rfl, hl⟩ | ⟨g, cap, cur, rfl, _, hg, _, _, _, htake⟩
  · obtain rfl : L = [] := List.eq_nil_of_length_eq_zero hl
    exact matches_nil s w hs
  · refine matches_row s g cap L w hs hn fun i hi => ?_
    have hc := fun j u hu => World.ownsRow.cells h0 (g := g) rfl j u hu
    simp only [Addr.add_lit, Nat.zero_add] at hc
    have hp := pcells_get L i hi
    exact ⟨hc _ _ hp.1, hc _ _ hp.2.1, hc _ _ hp.2.2⟩
end Go.Proofs.YtpfbkdbblpppdaaGreatDoor
