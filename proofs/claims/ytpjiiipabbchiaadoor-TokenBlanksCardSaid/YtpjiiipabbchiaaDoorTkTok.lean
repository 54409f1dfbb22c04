/-
  DERIVED. Token of postroomkeep: what it makes of a Piece.
-/
import Derived.Test.YtpjiiipabbchiaaDoorTokMore
import Derived.Test.YtpjiiipabbchiaaDoorTkCut
import Derived.Test.YtpjiiipabbchiaaDoorCut
import Derived.Test.YtpjiiipabbchiaaDoorDots
import Derived.Deep.RegionHeld3
namespace Go.Proofs.YtpjiiipabbchiaaDoor.Tk
open Go.RowKit

def markAt (i : Nat) : UInt8 := marks.getD i 0
/-- the token of a Piece -/
def tokP (a b : Int) (x : List UInt8) : Tok :=
  if pick a (5 : Nat) = 2 then ⟨3, [], pick b (2147483648 : Nat)⟩
  else if pick a (5 : Nat) = 3 then ⟨4, x.take 30, 0⟩
  else if pick a (5 : Nat) = 4 then ⟨5, [markAt (pick b (8 : Nat))], 0⟩
  else ⟨1 + (pick a (5 : Nat) : Int), wordL x, 0⟩
theorem mark_cut : ∀ i < 8, (⟨#[123, 125, 40, 41, 91, 93, 59, 44]⟩ : ByteArray).extract i (i + 1) = ⟨[markAt i].toArray⟩ := by decide +kernel
theorem mark_in : ∀ i < 8, markAt i ∈ marks := by decide
theorem low_let (c : UInt8) : isLet (lowB c) = true := byte_all (fun c => isLet (lowB c) = true) (by decide +kernel) c
theorem let_wd {c : UInt8} (h : isLet c = true) : isWd c = true := by unfold isWd; rw [h]; rfl
theorem all_while {p : UInt8 → Bool} : ∀ {x : List UInt8}, (∀ c ∈ x, p c = true) → x.takeWhile p = x
  | [], _ => rfl
  | c :: x, h => by rw [List.takeWhile_cons, if_pos (h c (List.mem_cons_self ..)), all_while (fun d hd => h d (List.mem_cons_of_mem _ hd))]
theorem word_good (x : List UInt8) : hdOf isLet (wordL x) = true ∧ (wordL x).takeWhile isWd = wordL x ∧ (wordL x).length ≤ 8 := by
  unfold wordL
  cases x with
  | nil => exact ⟨by decide, by decide, by decide⟩
  | cons c l =>
    rw [if_neg (by simp)]
    refine ⟨low_let c, all_while (fun d hd => ?_), ?_⟩
    · obtain ⟨y, -, rfl⟩ := List.mem_map.1 hd
      exact let_wd (low_let y)
    · rw [List.length_map]; exact List.length_take_le _ _
theorem tokP_good (a b : Int) (x : List UInt8) : GoodTok (tokP a b x) := by
  have h5 := pick_lt a 5 (by omega)
  have h8 := pick_lt b 8 (by omega)
  have hb := pick_lt b 2147483648 (by omega)
  unfold tokP
  split
  · refine ⟨?_, by simp⟩
    unfold checkT
    rw [if_pos rfl, if_neg (by show ¬ (_ ∨ _); simp only; omega), if_pos rfl]
  · split
    · refine ⟨rfl, ?_⟩
      exact List.length_take_le _ _
    · split
      · refine ⟨?_, by show 1 ≤ _; omega⟩
        unfold checkT
        rw [if_neg (by simp), if_neg (by simp), if_pos rfl, if_pos ⟨rfl, fun c hc => by rw [List.mem_singleton.1 hc]; exact mark_in _ h8⟩, if_pos rfl]
      · obtain ⟨w1, w2, w3⟩ := word_good x
        refine ⟨?_, by show (wordL x).length ≤ 30; omega⟩
        unfold checkT
        rw [if_neg (by show ¬ (1 + (pick a (5 : Nat) : Int)) = 3; omega), if_pos (by show (1 + (pick a (5 : Nat) : Int)) = 1 ∨ (1 + (pick a (5 : Nat) : Int)) = 2; omega), if_pos ⟨w1, w2⟩, if_pos rfl]

theorem row_form {w : World} {B : Nat} {t : TypeId} {k n : Nat} {v : Value} {L : List Value} (h : w.ownsRow B t k v n L) : ∃ Gv cv, v = .slice Gv n cv := by
  rcases h.2 with ⟨h1, h2⟩ | ⟨g, cap, _, h1, _⟩
  · exact ⟨none, 0, by rw [h1, h2]⟩
  · exact ⟨_, _, h1⟩
theorem three_tok {w : World} {b : Nat} {a0 a1 a2 : Value} (h : Has w b [a0, a1, a2]) : w.cell? ⟨b, 0, none⟩ = some a0 ∧ w.cell? ⟨b, 1, none⟩ = some a1 ∧ w.cell? ⟨b, 2, none⟩ = some a2 ∧ w.frozen? ⟨b, 0, none⟩ = false ∧ w.frozen? ⟨b, 1, none⟩ = false ∧ w.frozen? ⟨b, 2, none⟩ = false :=
  ⟨h.1 0 _ rfl, h.1 1 _ rfl, h.1 2 _ rfl, h.2.1 0 (by simp), h.2.1 1 (by simp), h.2.1 2 (by simp)⟩
theorem tok_end {R : Nat} {t : Tok} {a : Act} {W w : World} (ht : a.tmps.getD 2 undef = .pointer (some ⟨R, 0, none⟩)) (hd : a.defers = []) (h : Has W R (tokC t)) (hb : Below w.heap.size w W) :
    bodyPost Tryd.prog Tryd.f13 (fun e w' => e = .returned (.agg #[.int .i64 t.kind, .string ⟨t.text.toArray⟩, .int .i64 t.num]) ∧ Below w.heap.size w w') .ret a W := by
  have c0 := h.1 0 _ rfl; have c1 := h.1 1 _ rfl; have c2 := h.1 2 _ rfl
  refine bodyPost_ret (v := .agg #[.int .i64 t.kind, .string ⟨t.text.toArray⟩, .int .i64 t.num]) ?_ hd ⟨rfl, hb⟩
  have ht' : a.tmps[2]?.getD undef = .pointer (some ⟨R, 0, none⟩) := by simpa using ht
  simp [results, Tryd.results13, go_sem, ht', c0, c1, c2]

set_option maxHeartbeats 8000000 in
set_option maxRecDepth 20000 in
theorem token_any (a b : Int) (x : ByteArray) (w : World) (ha : -9223372036854775808 ≤ a ∧ a ≤ 9223372036854775807) (hb : -9223372036854775808 ≤ b ∧ b ≤ 9223372036854775807) (hx : x.size ≤ 9223372036854775807) :
    Calls Tryd.prog 13 #[.agg #[.int .i64 a, .int .i64 b, .string x]] w fun e w' => e = .returned (.agg #[.int .i64 (tokP a b x.data.toList).kind, .string ⟨(tokP a b x.data.toList).text.toArray⟩, .int .i64 (tokP a b x.data.toList).num]) ∧ Below w.heap.size w w' := by
  obtain ⟨ha1, ha2⟩ := ha
  obtain ⟨hb1, hb2⟩ := hb
  have h5 := pick_lt a 5 (by omega)
  have h8 := pick_lt b 8 (by omega)
  obtain ⟨t, ht⟩ : ∃ t, t = tokP a b x.data.toList := ⟨_, rfl⟩
  rw [← ht]
  unfold tokP at ht
  obtain ⟨k, hk⟩ : ∃ k : Int, k = (pick a (5 : Nat) : Int) := ⟨_, rfl⟩
  obtain ⟨i, hi⟩ : ∃ i, i = pick b (8 : Nat) := ⟨_, rfl⟩
  have HPA : Hid (∀ w, Calls Tryd.prog 12 #[.int .i64 a, .int .i64 5] w fun e w' => e = .returned (.int .i64 k) ∧ w = w') := fun w => by rw [hk]; exact picked_any a 5 w ha1 ha2 (by omega) (by omega)
  have HPB : Hid (∀ w, Calls Tryd.prog 12 #[.int .i64 b, .int .i64 8] w fun e w' => e = .returned (.int .i64 (i : Int)) ∧ w = w') := fun w => by rw [hi]; exact picked_any b 8 w hb1 hb2 (by omega) (by omega)
  have HPN : Hid (∀ w, Calls Tryd.prog 12 #[.int .i64 b, .int .i64 2147483648] w fun e w' => e = .returned (.int .i64 (pick b (2147483648 : Nat))) ∧ w = w') := fun w => picked_any b 2147483648 w hb1 hb2 (by omega) (by omega)
  have HWD : Hid (∀ w, Calls Tryd.prog 24 #[.string x] w fun e w' => e = .returned (.string ⟨(wordL x.data.toList).toArray⟩) ∧ Below w.heap.size w w') := fun w => word_any x w hx
  have HCT : Hid (∀ w, Calls Tryd.prog 23 #[.string x, .int .i64 30] w fun e w' => e = .returned (.string ⟨(x.data.toList.take 30).toArray⟩) ∧ w = w') := fun w => cut_text x 30 w hx (by omega)
  have HMC := Lib.hid (mark_cut i (by omega))
  rw [← hi] at h8 ht
  have hk5 : k = 0 ∨ k = 1 ∨ k = 2 ∨ k = 3 ∨ k = 4 := by omega
  have hA := ba (ba (Below.refl w.heap.size w) (.cells #[.int .i64 a, .int .i64 b, .string x] 43))
  obtain ⟨N, hN⟩ : ∃ N, N = pick b (2147483648 : Nat) := ⟨_, rfl⟩
  rw [← hN] at ht HPN
  have HA := Lib.hid hA; have HT := Lib.hid ht; have HK := Lib.hid hk
  clear hi hb1 hb2 ha1 ha2 hx hA ht hk hN h5
  have HR0 : Hid (Has ((w.alloc (.cells #[.int .i64 a, .int .i64 b, .string x] 43)).alloc (.cells #[.int .i64 0, .string ⟨#[]⟩, .int .i64 0] 31)) (w.heap.size + 1) [.int .i64 0, .string ⟨#[]⟩, .int .i64 0]) := by
    have h := Has.alloc (w.alloc (.cells #[.int .i64 a, .int .i64 b, .string x] 43)) [.int .i64 0, .string ⟨#[]⟩, .int .i64 0] 31
    rw [World.size_alloc] at h
    exact h
  have hnew : ∀ a0 a1 a2, Has ((w.alloc (.cells #[.int .i64 a, .int .i64 b, .string x] 43)).alloc (.cells #[a0, a1, a2] 31)) (w.heap.size + 1) [a0, a1, a2] := fun a0 a1 a2 => by
    have h := Has.alloc (w.alloc (.cells #[.int .i64 a, .int .i64 b, .string x] 43)) [a0, a1, a2] 31
    rw [World.size_alloc] at h
    exact h
  have hk5' : (k = 0 ∨ k = 1) ∨ k = 2 ∨ k = 3 ∨ k = 4 := by omega
  clear hk5
  rcases hk5' with hk01 | rfl | rfl | rfl
  · have hT : t = ⟨1 + k, wordL x.data.toList, 0⟩ := by
      rw [HT.out, if_neg (by have := HK.out; omega), if_neg (by have := HK.out; omega), if_neg (by have := HK.out; omega), ← HK.out]
    subst hT
    clear HT HK HPB HPN HCT HMC
    rcases hk01 with rfl | rfl
    all_goals
      go_enter Tryd.func13, Tryd.ntmps13
      go_wp2_with fail
      refine (HPA.out _).mono ?_
      rintro e w2 ⟨rfl, rfl⟩
      clear HPA
      go_wp2_with fail
      refine (HWD.out _).mono ?_
      rintro e w3 ⟨rfl, hb3⟩
      have hr3 := HR0.out.down hb3
      obtain ⟨c0, c1, c2, f0, f1, f2⟩ := three_tok hr3
      have HR3 := Lib.hid hr3; have HB3 := Lib.hid (bt (HA.out _) hb3)
      clear hb3 hr3 HWD HR0
      go_wp2_with fail
      exact tok_end (t := ⟨_, _, _⟩) rfl rfl (((HR3.out.set' (i := 0) _ (by simp)).set' (i := 1) _ (by simp)).set' (i := 2) _ (by simp)) (((HB3.out.setCell (Nat.le_succ _) _).setCell (Nat.le_succ _) _).setCell (Nat.le_succ _) _)
  · have hT : t = ⟨3, [], N⟩ := by
      rw [HT.out, if_pos (by have := HK.out; omega)]
    subst hT
    clear HT HK HPB HWD HCT HMC
    go_enter Tryd.func13, Tryd.ntmps13
    go_wp2_with fail
    refine (HPA.out _).mono ?_
    rintro e w2 ⟨rfl, rfl⟩
    clear HPA
    go_wp2_with fail
    refine (HPN.out _).mono ?_
    rintro e w3 ⟨rfl, rfl⟩
    go_wp2_with fail
    exact tok_end (t := ⟨_, _, _⟩) rfl rfl (hnew _ _ _) (HA.out _)
  · have hT : t = ⟨4, x.data.toList.take 30, 0⟩ := by
      rw [HT.out, if_neg (by have := HK.out; omega), if_pos (by have := HK.out; omega)]
    subst hT
    clear HT HK HPB HWD HPN HMC
    go_enter Tryd.func13, Tryd.ntmps13
    go_wp2_with fail
    refine (HPA.out _).mono ?_
    rintro e w2 ⟨rfl, rfl⟩
    clear HPA
    go_wp2_with fail
    refine (HCT.out _).mono ?_
    rintro e w3 ⟨rfl, rfl⟩
    go_wp2_with fail
    exact tok_end (t := ⟨_, _, _⟩) rfl rfl (hnew _ _ _) (HA.out _)
  · have hT : t = ⟨5, [markAt i], 0⟩ := by
      rw [HT.out, if_neg (by have := HK.out; omega), if_neg (by have := HK.out; omega), if_pos (by have := HK.out; omega)]
    subst hT
    clear HT HK HCT HWD HPN
    have h8' : i = 0 ∨ i = 1 ∨ i = 2 ∨ i = 3 ∨ i = 4 ∨ i = 5 ∨ i = 6 ∨ i = 7 := by omega
    clear h8
    rcases h8' with rfl | rfl | rfl | rfl | rfl | rfl | rfl | rfl
    all_goals
      go_enter Tryd.func13, Tryd.ntmps13
      go_wp2_with fail
      refine (HPA.out _).mono ?_
      rintro e w2 ⟨rfl, rfl⟩
      clear HPA
      go_wp2_with fail
      go_region_with ((go_at_call 12; refine (HPB.out _).mono ?_; rintro e w' ⟨rfl, rfl⟩))
      all_goals
        go_wp2_with fail
        refine tok_end (t := ⟨5, [markAt _], 0⟩) rfl rfl (Has.down ?_ (Below.drew (Below.refl _ _))) (Below.drew (HA.out _))
        show Has _ _ [.int .i64 5, .string ⟨[markAt _].toArray⟩, .int .i64 0]
        rw [← HMC.out]
        exact hnew _ _ _
end Go.Proofs.YtpjiiipabbchiaaDoor.Tk
