/-
  DERIVED. 'dotted' of who: what it answers.
-/
import Derived.Test.YtobdokabelilmaaDoorDotted
namespace Go.Proofs.YtobdokabelilmaaDoor
open Go.RowKit

def okB (p : ByteArray) : Bool := pieceOK p.data.toList
theorem dots_pieces (s : ByteArray) : ∃ (PS : List ByteArray), PS = Lib.splitB ⟨#[46]⟩ 0 (Lib.countB s ⟨#[46]⟩) s ∧ PS.length = Lib.countB s ⟨#[46]⟩ + 1 ∧ PS.all okB = dotOK true s.data.toList ∧ ∀ p ∈ PS, p.size ≤ s.size := by
  refine ⟨_, rfl, Lib.splitB_all _ (by decide) 0 _ s rfl, ?_, ?_⟩
  · have h := Lib.splitB_data ⟨#[46]⟩ 0 (Lib.countB s ⟨#[46]⟩) s
    rw [← dots_all]
    show _ = (Lib.splitK [46] 0 (Lib.count s.data.toList [46]) s.data.toList).all pieceOK
    have h' : (Lib.splitB ⟨#[46]⟩ 0 (Lib.countB s ⟨#[46]⟩) s).map (·.data.toList) = Lib.splitK [46] 0 (Lib.count s.data.toList [46]) s.data.toList := h
    rw [← h', List.all_map]
    rfl
  · have : ∀ (k : Nat) (s : ByteArray), ∀ p ∈ Lib.splitB ⟨#[46]⟩ 0 k s, p.size ≤ s.size := by
      intro k
      induction k with
      | zero => intro s p hp; simp [Lib.splitB] at hp; subst hp; exact Nat.le_refl _
      | succ k ih =>
        intro s p hp
        rw [Lib.splitB] at hp
        split at hp
        · simp at hp; subst hp; exact Nat.le_refl _
        · rcases List.mem_cons.1 hp with rfl | hp
          · rw [ByteArray.size_extract]; omega
          · have := ih _ p hp
            rw [ByteArray.size_extract] at this
            omega
    exact this _ s
theorem all_take_succ {α : Type} (f : α → Bool) (l : List α) (j : Nat) (h : j < l.length) (h1 : (l.take j).all f = true) (h2 : f l[j] = true) : (l.take (j + 1)).all f = true := by
  rw [List.take_succ_eq_append_getElem h, List.all_append, h1]; simp [h2]
theorem all_false {α : Type} (f : α → Bool) (l : List α) (j : Nat) (h : j < l.length) (h2 : f l[j] = false) : l.all f = false := by
  cases hx : l.all f with
  | false => rfl
  | true => rw [List.all_eq_true.1 hx _ (List.getElem_mem h)] at h2; exact h2

set_option maxHeartbeats 1000000 in
theorem dotted_any (s : ByteArray) (m : Int) (w : World) (hs : s.size ≤ 1000000) (hm : w.cell? ⟨6, 0, none⟩ = some (.int .i64 m)) :
    Calls Tryd.prog 98 #[.string s] w fun e w' => e = .returned (.bool (dotOK true s.data.toList)) ∧ Below w.heap.size w w' := by
  obtain ⟨PS, hPS, hlen, hall, hsize⟩ := dots_pieces s
  obtain ⟨n, hn⟩ : ∃ n, n = PS.length := ⟨_, rfl⟩
  have hsp : Hid (Calls Tryd.prog 100 #[.string s, .string ⟨#[46]⟩] w fun e w' => e = .returned (.slice (some ⟨w.heap.size, 0, none⟩) n n) ∧ (∀ j (h : j < PS.length), w'.cell? ⟨w.heap.size, j, none⟩ = some (.string PS[j])) ∧ Below w.heap.size w w') := by
    unfold Hid
    refine (Tryd.strings_Split s ⟨#[46]⟩ m w (by omega) hm (by decide)).mono ?_
    rintro e w' ⟨rfl, rfl⟩
    rw [← hPS]
    refine ⟨by rw [hn, hlen], fun j hj => ?_, ba (Below.refl _ w) _⟩
    have hh : ∀ o, (w.alloc o).heap[w.heap.size]? = some o := heap_alloc_new w
    simp only [World.cell?, hh]
    rw [List.getElem?_toArray, List.getElem?_map, List.getElem?_eq_getElem hj]; rfl
  have hbound : PS.length ≤ 1000002 := by
    rw [hlen]; have := Lib.countB_le ⟨#[46]⟩ (by decide) s.size s (Nat.le_refl _); omega
  rw [← hall]
  have HS := Lib.hid hsize
  clear hPS hlen hall hsize hm
  rw [← hn] at hbound
  have HN := Lib.hid hn; clear hn
  go_enter Tryd.func98, Tryd.ntmps98
  go_wp2_with fail
  refine hsp.out.mono ?_
  rintro e W1 ⟨rfl, hc, hb⟩
  have HC := Lib.hid hc; clear hc hsp
  go_wp2_with fail
  go_loop [4, 5, 9] (fun _ _ i => ∃ j : Nat, j ≤ n ∧ i = .int .i64 j ∧ Hid ((PS.take j).all okB = true)) (fun _ _ i => n - (intOf i).toNat)
  case atStart => exact ⟨0, Nat.zero_le _, rfl, rfl⟩
  case round =>
    obtain ⟨j, hj, rfl, hok⟩ := hrel
    by_cases hlt : j < n
    · have hjL : j < PS.length := by rw [← HN.out]; exact hlt
      have hcell := HC.out j hjL
      obtain ⟨a, ha⟩ : ∃ a, a = PS[j] := ⟨_, rfl⟩
      rw [← ha] at hcell
      have hasz : a.size ≤ 1000000 := by have := HS.out a (by rw [ha]; exact List.getElem_mem hjL); omega
      have HL : Hid (∀ i (h : i < a.size), a.data.toList[i]? = some a[i]) := by intro i h; rw [List.getElem?_eq_getElem (by simpa using h)]; rfl
      have HF : Hid (okB a = false → PS.all okB = false) := by intro h; exact all_false okB PS j hjL (by rw [← ha]; exact h)
      have HT : Hid (okB a = true → (PS.take (j + 1)).all okB = true) := by intro h; exact all_take_succ okB PS j hjL hok.out (by rw [← ha]; exact h)
      clear ha hok
      cases he : a.toList.isEmpty with
      | true =>
        have HE : Hid (okB a = false) := by
          unfold Hid okB pieceOK
          rw [ByteArray.toList_eq] at he
          rw [he]; rfl
        go_wp2_with fail
        go_ret
        exact ⟨by rw [HF.out HE.out]; rfl, hb⟩
      | false =>
        have HE : Hid (a.data.toList.isEmpty = false) := by rw [ByteArray.toList_eq] at he; exact he
        go_wp2_with fail
        clear he
        go_loop [5, 17] (fun _ i => ∃ k : Nat, k ≤ a.size ∧ i = .int .i64 k ∧ Hid ((a.data.toList.take k).all isAtom = true)) (fun _ i => a.size - (intOf i).toNat)
        case atStart => exact ⟨0, Nat.zero_le _, rfl, rfl⟩
        case round =>
          obtain ⟨k, hk, rfl, hok⟩ := hrel
          by_cases hlt2 : k < a.size
          · have hkl : k < a.data.toList.length := by simpa using hlt2
            have HK : Hid (isAtom a[k] = false → okB a = false) := by
              intro h
              unfold okB pieceOK
              rw [all_false isAtom a.data.toList k hkl h, Bool.and_false]
            have HK2 : Hid (isAtom a[k] = true → (a.data.toList.take (k + 1)).all isAtom = true) := by
              intro h; exact all_take_succ isAtom a.data.toList k hkl hok.out h
            clear hok
            cases hat : isAtom a[k] with
            | true =>
              have HAT := Lib.hid hat; clear hat
              go_wp2_with fail
              refine (atom_any _ _).mono ?_
              rintro e w' ⟨rfl, rfl⟩
              rw [HAT.out]
              go_wp2_with fail
              go_round
              case rel => exact ⟨k + 1, by omega, by go_num, HK2.out HAT.out⟩
              case measure => simp [intOf]; omega
            | false =>
              have HAT := Lib.hid hat; clear hat
              go_wp2_with fail
              refine (atom_any _ _).mono ?_
              rintro e w' ⟨rfl, rfl⟩
              rw [HAT.out]
              go_wp2_with fail
              go_ret
              exact ⟨by rw [HF.out (HK.out HAT.out)]; rfl, hb⟩
          · obtain rfl : k = a.size := by omega
            have HK : Hid (okB a = true) := by
              unfold Hid okB pieceOK
              rw [HE.out]
              have := hok.out
              rw [List.take_of_length_le (by simp)] at this
              rw [this]; rfl
            clear hok
            go_wp2_with fail
            go_round
            case rel => exact ⟨j + 1, by omega, by go_num, HT.out HK.out⟩
            case measure => simp [intOf]; omega
    · obtain rfl : j = n := by omega
      have HK : Hid (PS.all okB = true) := by
        have := hok.out
        rw [HN.out, List.take_length] at this
        exact this
      clear hok
      go_wp2_with fail
      go_ret
      exact ⟨by rw [HK.out]; rfl, hb⟩
end Go.Proofs.YtobdokabelilmaaDoor
