/-
  DERIVED. What lmtp's sessions call: slices of addresses and texts, 'rest', 'address'.
-/
import Derived.Test.YtdhepaeephmhiaaDoorLinePlain
import Derived.Test.YtdhepaeephmhiaaDoorCod
import Derived.Test.YtdhepaeephmhiaaDoorHas
import Derived.Test.YtdhepaeephmhiaaDoorIs
import Derived.Test.YtdhepaeephmhiaaDoorListForm
import Derived.Test.YtdhepaeephmhiaaDoorCut
import Derived.Deep.QuietTactic
import Derived.BigQuiet
import Derived.Lib.SliceRun
namespace Go.Proofs.YtdhepaeephmhiaaDoor
open Go.RowKit

def adC (a : Ad) : List Value := [.string ⟨a.1.toArray⟩, .string ⟨a.2.toArray⟩]
def cAd : Cod Ad := Cod.flat 2 adC (fun _ => rfl)
def strC (a : List UInt8) : List Value := [.string ⟨a.toArray⟩]
def cStr : Cod (List UInt8) := Cod.flat 1 strC (fun _ => rfl)
theorem ad_get {w wr : World} {F : Dom} {G : Option Addr} {n cap : Nat} {l : List Ad} (h : SAt cAd w F (.slice G n cap) l) (hb : Below w.heap.size w wr) (j : Nat) (hj : j < l.length) :
    ∃ g off, G = some ⟨g, off, none⟩ ∧ F g ∧ g < w.heap.size ∧ wr.cell? ⟨g, off + j * 2, none⟩ = some (.string ⟨l[j].1.toArray⟩) ∧ wr.cell? ⟨g, off + j * 2 + 1, none⟩ = some (.string ⟨l[j].2.toArray⟩) := by
  obtain ⟨g, off, vs, hG, hF, hg, hv, hc⟩ := h.get j hj
  obtain rfl : vs = adC l[j] := hv
  exact ⟨g, off, hG, hF, hg, moved (hc 0 _ rfl) hb (Nat.le_refl _), moved (hc 1 _ rfl) hb (Nat.le_refl _)⟩
theorem str_get {w wr : World} {F : Dom} {G : Option Addr} {n cap : Nat} {l : List (List UInt8)} (h : SAt cStr w F (.slice G n cap) l) (hb : Below w.heap.size w wr) (j : Nat) (hj : j < l.length) :
    ∃ g off, G = some ⟨g, off, none⟩ ∧ F g ∧ g < w.heap.size ∧ wr.cell? ⟨g, off + j, none⟩ = some (.string ⟨l[j].toArray⟩) := by
  obtain ⟨g, off, vs, hG, hF, hg, hv, hc⟩ := h.get j hj
  obtain rfl : vs = strC l[j] := hv
  refine ⟨g, off, hG, hF, hg, ?_⟩
  have := moved (hc 0 _ rfl) hb (Nat.le_refl _)
  simpa [cStr, Cod.flat] using this
def idxI : Option Nat → Int
  | none => -1
  | some i => i
theorem findIdx_contains {α : Type} [BEq α] [LawfulBEq α] (l : List α) (a : α) : decide ((0 : Int) ≤ idxI (l.findIdx? (fun b => b == a))) = l.contains a := by
  cases h : l.findIdx? (fun b => b == a) with
  | none =>
    rw [List.findIdx?_eq_none_iff] at h
    have : l.contains a = false := by
      rw [Bool.eq_false_iff]
      intro hc
      have := h a (List.contains_iff_mem.1 hc)
      simp at this
    rw [this]; decide
  | some i =>
    obtain ⟨hi, h1, _⟩ := List.findIdx?_eq_some_iff_getElem.1 h
    have he : l[i] = a := by simpa using h1
    have : l.contains a = true := List.contains_iff_mem.2 (he ▸ List.getElem_mem _)
    rw [this]
    show decide ((0 : Int) ≤ (i : Int)) = true
    simp

set_option maxHeartbeats 2000000 in
set_option maxRecDepth 20000 in
theorem indexS_any (v : Value) (l : List (List UInt8)) (F : Dom) (a : List UInt8) (w : World) (h : SAt cStr w F v l) (hl : l.length ≤ 1000) :
    Calls Tryd.prog 82 #[v, .string ⟨a.toArray⟩] w fun e w' => e = .returned (.int .i64 (idxI (l.findIdx? (fun b => b == a)))) ∧ Below w.heap.size w w' := by
  obtain ⟨G, cap, rfl, hcap⟩ := h.form
  have H := Lib.hid h
  clear h
  go_enter Tryd.func82, Tryd.ntmps82
  go_wp2_with fail
  go_loopw [8] (fun i wr => ∃ j : Nat, j ≤ l.length ∧ i = .int .i64 j ∧ (∀ k (hk : k < l.length), k < j → (l[k] == a) = false) ∧ Below w.heap.size w wr) (fun i _ => l.length - (intOf i).toNat)
  case atStart => exact ⟨0, Nat.zero_le _, rfl, fun k _ h => absurd h (Nat.not_lt_zero k), Below.refl _ _⟩
  case round =>
    obtain ⟨j, hj, rfl, hno, hb⟩ := hrel
    have HNO := Lib.hid hno; have HB := Lib.hid hb
    clear hno
    by_cases hlt : j < l.length
    · obtain ⟨g, off, rfl, -, hg, c0⟩ := str_get H.out hb j hlt
      cases hp : (l[j] == a) with
      | true =>
        have hfi : Hid (l.findIdx? (fun b => b == a) = some j) := by
          unfold Hid
          rw [List.findIdx?_eq_some_iff_getElem]
          exact ⟨hlt, hp, fun k hk => by rw [HNO.out k (by omega) hk]; decide⟩
        have hp2 : (a == l[j]) = true := by rw [beq_iff_eq] at hp ⊢; exact hp.symm
        clear HNO hb
        generalize l[j] = b at c0 hp hp2
        go_wp2_with fail
        go_ret
        exact ⟨by rw [hfi.out]; rfl, HB.out⟩
      | false =>
        have hno2 : Hid (∀ k (hk : k < l.length), k < j + 1 → (l[k] == a) = false) := by
          intro k hk hkj
          rcases Nat.lt_succ_iff_lt_or_eq.1 hkj with h | h
          · exact HNO.out k hk h
          · subst h; exact hp
        have hp2 : (a == l[j]) = false := by rw [beq_eq_false_iff_ne] at hp ⊢; exact fun e => hp e.symm
        clear HNO hb
        generalize l[j] = b at c0 hp hp2
        go_wp2_with fail
        go_roundw
        case rel => exact ⟨j + 1, hlt, by go_num, hno2.out, HB.out⟩
        case measure => simp [intOf]; omega
    · obtain rfl : j = l.length := by omega
      have hfi : Hid (l.findIdx? (fun b => b == a) = none) := by
        unfold Hid
        rw [List.findIdx?_eq_none_iff]
        intro b hb
        obtain ⟨k, hk, rfl⟩ := List.getElem_of_mem hb
        exact HNO.out k hk hk
      clear HNO hb
      go_wp2_with fail
      go_ret
      exact ⟨by rw [hfi.out]; rfl, HB.out⟩
set_option maxRecDepth 20000 in
theorem containsS_any (v : Value) (l : List (List UInt8)) (F : Dom) (a : List UInt8) (w : World) (h : SAt cStr w F v l) (hl : l.length ≤ 1000) :
    Calls Tryd.prog 65 #[v, .string ⟨a.toArray⟩] w fun e w' => e = .returned (.bool (l.contains a)) ∧ Below w.heap.size w w' := by
  have hc := indexS_any v l F a w h hl
  have HC := Lib.hid (findIdx_contains l a)
  generalize idxI (l.findIdx? (fun b => b == a)) = z at hc HC
  go_enter Tryd.func65, Tryd.ntmps65
  go_wp2_with fail
  refine hc.mono ?_
  rintro e w1 ⟨rfl, hb1⟩
  have HB := Lib.hid hb1
  clear hb1 hc
  go_wp2_with fail
  go_ret
  exact ⟨by rw [← HC.out]; rfl, HB.out⟩

set_option maxHeartbeats 2000000 in
set_option maxRecDepth 20000 in
theorem indexA_any (v : Value) (l : List Ad) (F : Dom) (a : Ad) (w : World) (h : SAt cAd w F v l) (hl : l.length ≤ 1000) :
    Calls Tryd.prog 62 #[v, .agg #[.string ⟨a.1.toArray⟩, .string ⟨a.2.toArray⟩]] w fun e w' => e = .returned (.int .i64 (idxI (l.findIdx? (fun b => b == a)))) ∧ Below w.heap.size w w' := by
  obtain ⟨G, cap, rfl, hcap⟩ := h.form
  have hA := ba (Below.refl w.heap.size w) (.cells #[.string ⟨a.1.toArray⟩, .string ⟨a.2.toArray⟩] 44)
  have HX := Lib.hid (Has.alloc w [.string ⟨a.1.toArray⟩, .string ⟨a.2.toArray⟩] 44)
  have H := Lib.hid (h.down hA); have HA := Lib.hid hA
  clear h hA
  go_enter Tryd.func62, Tryd.ntmps62
  go_wp2_with fail
  obtain ⟨W0, hW0⟩ : ∃ W0, W0 = w.alloc (.cells #[.string ⟨a.1.toArray⟩, .string ⟨a.2.toArray⟩] 44) := ⟨_, rfl⟩
  rw [← hW0] at HX H HA ⊢
  clear hW0
  go_loopw [8] (fun i wr => ∃ j : Nat, j ≤ l.length ∧ i = .int .i64 j ∧ (∀ k (hk : k < l.length), k < j → (l[k] == a) = false) ∧ Below W0.heap.size W0 wr) (fun i _ => l.length - (intOf i).toNat)
  case atStart => exact ⟨0, Nat.zero_le _, rfl, fun k _ h => absurd h (Nat.not_lt_zero k), Below.refl _ _⟩
  case round =>
    obtain ⟨j, hj, rfl, hno, hb⟩ := hrel
    have HNO := Lib.hid hno
    obtain ⟨x0, x1, -, -⟩ := (HX.out.down hb).two
    clear hno
    by_cases hlt : j < l.length
    · obtain ⟨g, off, rfl, -, hg, c0, c1⟩ := ad_get H.out hb j hlt
      cases hp : (l[j] == a) with
      | true =>
        have hfi : Hid (l.findIdx? (fun b => b == a) = some j) := by
          unfold Hid
          rw [List.findIdx?_eq_some_iff_getElem]
          exact ⟨hlt, hp, fun k hk => by rw [HNO.out k (by omega) hk]; decide⟩
        have he : l[j] = a := by simpa using hp
        rw [he] at c0 c1
        clear HNO hp he
        go_wp2_with fail
        go_quiet (fail)
        have HB := Lib.hid (bt HA.out (bt hb (below_drewN wr nq)))
        clear hb x0 x1 c0 c1
        go_wp2_with fail
        go_ret
        exact ⟨by rw [hfi.out]; rfl, HB.out⟩
      | false =>
        have hno2 : Hid (∀ k (hk : k < l.length), k < j + 1 → (l[k] == a) = false) := by
          intro k hk hkj
          rcases Nat.lt_succ_iff_lt_or_eq.1 hkj with h | h
          · exact HNO.out k hk h
          · subst h; exact hp
        have hp2 : (a.1 == l[j].1) = false ∨ ((a.1 == l[j].1) = true ∧ (a.2 == l[j].2) = false) := by
          cases e1 : (a.1 == l[j].1) with
          | false => exact .inl rfl
          | true =>
            refine .inr ⟨rfl, ?_⟩
            rw [Bool.eq_false_iff]
            intro e2
            rw [beq_iff_eq] at e1 e2
            rw [beq_eq_false_iff_ne] at hp
            exact hp (Prod.ext e1.symm e2.symm)
        clear HNO hp
        generalize l[j] = b at c0 c1 hp2
        rcases hp2 with e1 | ⟨e1, e2⟩
        all_goals
          go_wp2_with fail
          go_quiet (fail)
          have HB := Lib.hid (bt hb (below_drewN wr nq))
          clear hb x0 x1 c0 c1
          go_wp2_with fail
          go_roundw
          case rel => exact ⟨j + 1, hlt, by go_num, hno2.out, HB.out⟩
          case measure => simp [intOf]; omega
    · obtain rfl : j = l.length := by omega
      have hfi : Hid (l.findIdx? (fun b => b == a) = none) := by
        unfold Hid
        rw [List.findIdx?_eq_none_iff]
        intro b hb
        obtain ⟨k, hk, rfl⟩ := List.getElem_of_mem hb
        exact HNO.out k hk hk
      have HB := Lib.hid (bt HA.out hb)
      clear HNO hb
      go_wp2_with fail
      go_ret
      exact ⟨by rw [hfi.out]; rfl, HB.out⟩
set_option maxRecDepth 20000 in
theorem containsA_any (v : Value) (l : List Ad) (F : Dom) (a : Ad) (w : World) (h : SAt cAd w F v l) (hl : l.length ≤ 1000) :
    Calls Tryd.prog 44 #[v, .agg #[.string ⟨a.1.toArray⟩, .string ⟨a.2.toArray⟩]] w fun e w' => e = .returned (.bool (l.contains a)) ∧ Below w.heap.size w w' := by
  have hA := ba (Below.refl w.heap.size w) (.cells #[.string ⟨a.1.toArray⟩, .string ⟨a.2.toArray⟩] 44)
  obtain ⟨x0, x1, -, -⟩ := (Has.alloc w [.string ⟨a.1.toArray⟩, .string ⟨a.2.toArray⟩] 44).two
  have hc := indexA_any v l F a _ (h.down hA) hl
  have HC := Lib.hid (findIdx_contains l a)
  generalize idxI (l.findIdx? (fun b => b == a)) = z at hc HC
  have HA := Lib.hid hA
  clear hA
  go_enter Tryd.func44, Tryd.ntmps44
  go_wp2_with fail
  refine hc.mono ?_
  rintro e w1 ⟨rfl, hb1⟩
  have HB := Lib.hid (bt HA.out hb1)
  clear hb1 hc x0 x1
  go_wp2_with fail
  go_ret
  exact ⟨by rw [← HC.out]; rfl, HB.out⟩
end Go.Proofs.YtdhepaeephmhiaaDoor
