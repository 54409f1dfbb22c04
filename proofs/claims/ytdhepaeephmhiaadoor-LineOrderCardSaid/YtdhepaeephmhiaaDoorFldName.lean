/-
  DERIVED. 'name' of letter: what it answers.
-/
import Derived.Test.YtdhepaeephmhiaaDoorPart
import Derived.Test.YtdhepaeephmhiaaDoorLetPlain
namespace Go.Proofs.YtdhepaeephmhiaaDoor
open Go.RowKit

def nameC (c : UInt8) : Bool := !(decide (c < 33) || decide (126 < c) || c == 58)
theorem nameOK_eq (l : List UInt8) : nameOK l = (l.all nameC && !l.isEmpty) := rfl
theorem take_snoc_all (f : UInt8 → Bool) (l : List UInt8) (j : Nat) (h : j < l.length) (h1 : (l.take j).all f = true) (h2 : f l[j] = true) : (l.take (j + 1)).all f = true := by
  rw [List.take_succ_eq_append_getElem h, List.all_append, h1]; simp [h2]
theorem hit_false (f : UInt8 → Bool) (l : List UInt8) (j : Nat) (h : j < l.length) (h2 : f l[j] = false) : l.all f = false := by
  cases hx : l.all f with
  | false => rfl
  | true => rw [List.all_eq_true.1 hx _ (List.getElem_mem h)] at h2; exact h2

set_option maxHeartbeats 1000000 in
set_option maxRecDepth 20000 in
theorem name_any (s : ByteArray) (w : World) (hs : s.size ≤ 1000000) :
    Calls Tryd.prog 68 #[.string s] w fun e w' => e = .returned (.bool (nameOK s.data.toList)) ∧ w' = w := by
  have hsl : s.data.toList.length = s.size := by simp
  obtain ⟨l, hl⟩ : ∃ l, l = s.data.toList := ⟨_, rfl⟩
  rw [← hl] at hsl ⊢
  have HK : Hid (∀ (k : Nat) (h : k < s.size), (nameC s[k] = false → nameOK l = false) ∧ (nameC s[k] = true → (l.take k).all nameC = true → (l.take (k + 1)).all nameC = true)) := by
    subst hl
    intro k hk
    have hk2 : k < s.data.toList.length := by omega
    exact ⟨fun h => by rw [nameOK_eq, hit_false nameC s.data.toList k hk2 h]; rfl, fun h h2 => take_snoc_all nameC s.data.toList k hk2 h2 h⟩
  have HS := Lib.hid hsl
  clear hl hsl
  go_enter Tryd.func68, Tryd.ntmps68
  go_wp2_with fail
  go_loop [3, 6] (fun _ i => ∃ k : Nat, k ≤ s.size ∧ i = .int .i64 k ∧ Hid ((l.take k).all nameC = true)) (fun _ i => s.size - (intOf i).toNat)
  case atStart => exact ⟨0, Nat.zero_le _, rfl, rfl⟩
  case round =>
    obtain ⟨k, hk, rfl, hok⟩ := hrel
    by_cases hlt : k < s.size
    · obtain ⟨c, hc⟩ : ∃ c : UInt8, s[k] = c := ⟨_, rfl⟩
      have HK1 := HK.out k hlt
      rw [hc] at HK1
      have HX := Lib.hid HK1
      clear HK1
      by_cases h1 : c.toNat < 33
      · have e1 : (s[k].toNat : Int) < 33 := by rw [hc]; omega
        have hn : Hid (nameOK l = false) := HX.out.1 (by unfold nameC; rw [show decide (c < 33) = true by simpa [UInt8.lt_iff_toNat_lt] using h1]; rfl)
        clear hc HX hok
        go_wp2_with fail
        go_ret
        exact ⟨by rw [hn.out]; rfl, rfl⟩
      · have e1 : decide ((s[k].toNat : Int) < 33) = false := decide_eq_false (by rw [hc]; omega)
        by_cases h2 : 126 < c.toNat
        · have e2 : (126 : Int) < (s[k].toNat : Int) := by rw [hc]; omega
          have hn : Hid (nameOK l = false) := HX.out.1 (by unfold nameC; rw [show decide (126 < c) = true by simpa [UInt8.lt_iff_toNat_lt] using h2]; simp)
          clear hc HX hok
          go_wp2_with fail
          go_ret
          exact ⟨by rw [hn.out]; rfl, rfl⟩
        · have e2 : decide ((126 : Int) < (s[k].toNat : Int)) = false := decide_eq_false (by rw [hc]; omega)
          by_cases h3 : c = 58
          · have e3 : ((s[k].toNat : Int) == 58) = true := by rw [hc, h3]; rfl
            have hn : Hid (nameOK l = false) := HX.out.1 (by unfold nameC; rw [h3]; rfl)
            clear hc HX hok
            go_wp2_with fail
            go_ret
            exact ⟨by rw [hn.out]; rfl, rfl⟩
          · have e3 : ((s[k].toNat : Int) == 58) = false := beq_eq_false_iff_ne.2 (fun e => h3 (UInt8.toNat_inj.1 (by rw [← hc]; exact Int.ofNat_inj.1 e)))
            have hn : Hid ((l.take (k + 1)).all nameC = true) := HX.out.2 (by
              unfold nameC
              rw [show decide (c < 33) = false by simpa [UInt8.lt_iff_toNat_lt] using h1, show decide (126 < c) = false by simpa [UInt8.lt_iff_toNat_lt] using h2]
              simpa using h3) hok.out
            clear hc HX hok
            go_wp2_with fail
            go_round
            case rel => exact ⟨k + 1, by omega, by go_num, hn⟩
            case measure => simp [intOf]; omega
    · obtain rfl : k = s.size := by omega
      have hall : Hid (l.all nameC = true) := by
        have := hok.out
        rw [← HS.out, List.take_length] at this
        exact this
      clear hok
      have hgt : Hid (nameOK l = decide (0 < s.size)) := by
        unfold Hid
        rw [nameOK_eq, hall.out, ← HS.out]
        cases l with
        | nil => rfl
        | cons a b => simp
      go_wp2_with fail
      go_ret
      exact ⟨by rw [hgt.out]; rfl, rfl⟩
end Go.Proofs.YtdhepaeephmhiaaDoor
