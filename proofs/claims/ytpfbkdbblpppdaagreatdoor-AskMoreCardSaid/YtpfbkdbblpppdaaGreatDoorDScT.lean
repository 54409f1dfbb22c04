/-
  DERIVED. Of: ScTest, ScTstH, ScTst4, ScTst5, ScCmds, ScCmd1.
-/
import Derived.Test.YtpfbkdbblpppdaaGreatDoorDScStkMem
import Derived.Test.YtpfbkdbblpppdaaGreatDoorDScPut
import Derived.Test.YtpfbkdbblpppdaaGreatDoorDHeldBy
import Derived.Deep.DeepCutAuto
import Derived.Deep.CutBlock
import Derived.Deep.RegionLaw
import Derived.Deep.RegionHeld3
import Derived.BigRegion
import Derived.IntWalk
set_option linter.unusedVariables false
set_option linter.unusedSimpArgs false
namespace Go.Proofs.YtpfbkdbblpppdaaGreatDoor.Sc
open Go.RowKit
open Tk (Tok)

theorem has_oct' {w : World} {b : Nat} {a0 a1 a2 a3 a4 a5 a6 a7 : Value} (h : Has w b [a0, a1, a2, a3, a4, a5, a6, a7]) : w.cell? ⟨b, 0, none⟩ = some a0 ∧ w.cell? ⟨b, 1, none⟩ = some a1 ∧ w.cell? ⟨b, 2, none⟩ = some a2 ∧ w.cell? ⟨b, 3, none⟩ = some a3 ∧ w.cell? ⟨b, 4, none⟩ = some a4 ∧ w.cell? ⟨b, 5, none⟩ = some a5 ∧ w.cell? ⟨b, 6, none⟩ = some a6 ∧ w.cell? ⟨b, 7, none⟩ = some a7 :=
  ⟨h.1 0 _ rfl, h.1 1 _ rfl, h.1 2 _ rfl, h.1 3 _ rfl, h.1 4 _ rfl, h.1 5 _ rfl, h.1 6 _ rfl, h.1 7 _ rfl⟩
/-- go on from whatever world is so -/
theorem wp_at {P : Program} {c : Code} {Q : Exit → Act → World → Prop} {a : Act} {W : World} (R : World → Prop) (hR : R W) (h : ∀ W, R W → c.wp P Q a W) : c.wp P Q a W := h W hR
theorem extract_take (s : ByteArray) (n : Nat) : s.extract 0 n = ⟨(s.data.toList.take n).toArray⟩ := by
  rw [Lib.extract_eq]; simp
set_option maxHeartbeats 400000 in
theorem clip_any (s : ByteArray) (m : Int) (w : World) (_hs : s.size ≤ 9223372036854775807) (h0 : 0 ≤ m) (h1 : m ≤ 9223372036854775807) :
    Calls Tryz.prog 40 #[.string s, .int .i64 m] w fun e w' => e = .returned (.string ⟨(s.data.toList.take m.toNat).toArray⟩) ∧ w = w' := by
  obtain ⟨n, rfl⟩ := Int.eq_ofNat_of_zero_le h0
  rw [Int.toNat_natCast]
  have H : Hid (s.extract 0 (min (s.size : Int) (n : Int)).toNat = ⟨(s.data.toList.take n).toArray⟩) := by
    unfold Hid
    rw [extract_take]
    by_cases h : n < s.size
    · rw [show (min (s.size : Int) (n : Int)).toNat = n by omega]
    · rw [show (min (s.size : Int) (n : Int)).toNat = s.size by omega, List.take_of_length_le (by simp), List.take_of_length_le (by simp; omega)]
  go_enter Tryz.func40, Tryz.ntmps40
  go_wp2
  go_ret
  exact ⟨congrArg (fun b => Ending.returned (Value.string b)) H.out, rfl⟩

theorem short_any (s : Str) (w : World) (hs : s.length ≤ 9223372036854775807) : Calls Tryz.prog 18 #[.string ⟨s.toArray⟩] w fun e w' => e = .returned (.string ⟨(s.take 12).toArray⟩) ∧ w = w' := by
  have HC : Hid (∀ w, Calls Tryz.prog 40 #[.string ⟨s.toArray⟩, .int .i64 12] w fun e w' => e = .returned (.string ⟨(s.take 12).toArray⟩) ∧ w = w') := fun w => clip_any ⟨s.toArray⟩ 12 w (by show s.toArray.size ≤ _; rw [List.size_toArray]; exact hs) (by decide) (by decide)
  go_enter Tryz.func18, Tryz.ntmps18
  go_wp2_with (go_at_call 40; refine (HC.out _).mono ?_; rintro e w' ⟨rfl, rfl⟩)
  go_ret
  exact ⟨rfl, rfl⟩
end Go.Proofs.YtpfbkdbblpppdaaGreatDoor.Sc
namespace Go.Proofs.YtpfbkdbblpppdaaGreatDoor.Sc
open Go.RowKit
open Tk (Tok)

theorem sat_str {w : World} {F : Dom} {b : Nat} {s : Str} (h : Has w b [.string ⟨s.toArray⟩]) (hF : F b) : SAt cStr w F (.slice (some ⟨b, 0, none⟩) 1 1) [s] := by
  refine ⟨_, 1, rfl, Nat.le_refl _, fun i y hi => ?_⟩
  have h0 : i = 0 := by have := (List.getElem?_eq_some_iff.1 hi).1; simp at this; omega
  subst h0
  obtain rfl : s = y := Option.some.inj hi
  exact ⟨b, 0, rfl, hF, h.2.2, strC s, rfl, fun j u hj => by simpa using h.1 j u hj⟩
def strs (l : List Str) : List Value := l.map fun s => .string ⟨s.toArray⟩
theorem strs_at (l : List Str) (k : Nat) (h : k < l.length) : (strs l)[k]? = some (.string ⟨(l.getD k []).toArray⟩) := by
  unfold strs; rw [List.getElem?_map, List.getElem?_eq_getElem h, List.getD, List.getElem?_eq_getElem h]; rfl
theorem sat_lt {w : World} {F : Dom} {v : Value} {l : List Str} (h : SAt cStr w F v l) : SAt cStr w (fun b => F b ∧ b < w.heap.size) v l := by
  obtain ⟨G, cap, hv, hc, hf⟩ := h
  refine ⟨G, cap, hv, hc, fun i x hi => ?_⟩
  obtain ⟨g, off, hG, hg0, hg, vs, h1, h2⟩ := hf i x hi
  exact ⟨g, off, hG, ⟨hg0, hg⟩, hg, vs, h1, h2⟩
end Go.Proofs.YtpfbkdbblpppdaaGreatDoor.Sc
namespace Go.Proofs.YtpfbkdbblpppdaaGreatDoor.Sc
open Go.RowKit
open Tk (Tok)

theorem SAt.bd {α : Type} {c : Cod α} {w : World} {F : Dom} {v : Value} {xs : List α} (hr : ∀ x vs, c.rep w F x vs → c.rep w (fun b => F b ∧ b < w.heap.size) x vs) (h : SAt c w F v xs) : SAt c w (fun b => F b ∧ b < w.heap.size) v xs := by
  obtain ⟨G, cap, hv, hc, hf⟩ := h
  refine ⟨G, cap, hv, hc, fun i x hi => ?_⟩
  obtain ⟨g, off, hG, hF, hg, vs, h1, h2⟩ := hf i x hi
  exact ⟨g, off, hG, ⟨hF, hg⟩, hg, vs, hr x vs h1, h2⟩
theorem tst_bd : ∀ (n : Nat) {w : World} {F : Dom} {t : Tst} {vs : List Value}, (cTst n).rep w F t vs → (cTst n).rep w (fun b => F b ∧ b < w.heap.size) t vs
  | 0, _, _, _, _, h => h.elim
  | n + 1, _, _, _, _, ⟨vn, vk, vt, h, h1, h2, h3⟩ => ⟨vn, vk, vt, h, sat_lt h1, sat_lt h2, SAt.bd (fun _ _ hr => tst_bd n hr) h3⟩
end Go.Proofs.YtpfbkdbblpppdaaGreatDoor.Sc
namespace Go.Proofs.YtpfbkdbblpppdaaGreatDoor.Sc
open Go.RowKit
open Tk (Tok)

theorem ORow.shape {α : Type} {c : Cod α} {e : TypeId} {w : World} {base : Nat} {D : Dom} {v : Value} {ps : Held α} (h : ORow c e w base D v ps) : ∃ G cap, v = .slice G ps.length cap := by
  rcases h.1.2 with ⟨rfl, h0⟩ | ⟨g, cap, cur, rfl, _⟩
  · exact ⟨none, 0, by rw [h0]⟩
  · exact ⟨_, _, rfl⟩
end Go.Proofs.YtpfbkdbblpppdaaGreatDoor.Sc
namespace Go.Proofs.YtpfbkdbblpppdaaGreatDoor.Sc
open Go.RowKit
open Tk (Tok)

theorem info_cmd : (Tryz.prog.info? 50).map (fun i => (i.zero, i.size, i.bytes)) = some (some (.agg #[.int .i64 0, .slice none 0 0, .int .i64 0, .int .i64 0, .int .i64 0, .slice none 0 0, .slice none 0 0, .bool false, .int .i64 0, .slice none 0 0, .slice none 0 0, .slice none 0 0]), 12, 192) := by kernel_rfl
theorem cmd_bd : ∀ (n : Nat) {w : World} {F : Dom} {t : Cmd} {vs : List Value}, (cCmd n).rep w F t vs → (cCmd n).rep w (fun b => F b ∧ b < w.heap.size) t vs
  | 0, _, _, _, _, h => h.elim
  | n + 1, _, _, _, _, ⟨vx, ts, vh, ve, h, h1, h2, h3, h4⟩ => ⟨vx, ts, vh, ve, h, sat_lt h1, tst_bd (n + 1) h2, SAt.bd (fun _ _ hr => cmd_bd n hr) h3, SAt.bd (fun _ _ hr => cmd_bd n hr) h4⟩
theorem has_12 {w : World} {b : Nat} {a0 a1 a2 a3 a4 a5 a6 a7 a8 a9 a10 a11 : Value} (h : Has w b [a0, a1, a2, a3, a4, a5, a6, a7, a8, a9, a10, a11]) : w.cell? ⟨b, 0, none⟩ = some a0 ∧ w.cell? ⟨b, 1, none⟩ = some a1 ∧ w.cell? ⟨b, 2, none⟩ = some a2 ∧ w.cell? ⟨b, 3, none⟩ = some a3 ∧ w.cell? ⟨b, 4, none⟩ = some a4 ∧ w.cell? ⟨b, 5, none⟩ = some a5 ∧ w.cell? ⟨b, 6, none⟩ = some a6 ∧ w.cell? ⟨b, 7, none⟩ = some a7 ∧ w.cell? ⟨b, 8, none⟩ = some a8 ∧ w.cell? ⟨b, 9, none⟩ = some a9 ∧ w.cell? ⟨b, 10, none⟩ = some a10 ∧ w.cell? ⟨b, 11, none⟩ = some a11 :=
  ⟨h.1 0 _ rfl, h.1 1 _ rfl, h.1 2 _ rfl, h.1 3 _ rfl, h.1 4 _ rfl, h.1 5 _ rfl, h.1 6 _ rfl, h.1 7 _ rfl, h.1 8 _ rfl, h.1 9 _ rfl, h.1 10 _ rfl, h.1 11 _ rfl⟩
theorem cmd_form12 {K : Nat} {w : World} {F : Dom} {t : Cmd} {vs : List Value} (h : (cCmd K).rep w F t vs) : ∃ k G0 n0 c0 k1 m p G1 n1 c1 G2 n2 c2 o l G3 n3 c3 G4 n4 c4 G5 n5 c5, vs = [.int .i64 k, .slice G0 n0 c0, .int .i64 k1, .int .i64 m, .int .i64 p, .slice G1 n1 c1, .slice G2 n2 c2, .bool o, .int .i64 l, .slice G3 n3 c3, .slice G4 n4 c4, .slice G5 n5 c5] := by
  obtain ⟨_, Gx, cx, Gn, cn, Gk, ck, Gt, ct, Gh, ch, Ge, ce, -, rfl, -⟩ := cmd_open h
  exact ⟨_, _, _, _, _, _, _, _, _, _, _, _, _, _, _, _, _, _, _, _, _, _, _, _, rfl⟩

end Go.Proofs.YtpfbkdbblpppdaaGreatDoor.Sc
namespace Go.Proofs.YtpfbkdbblpppdaaGreatDoor.Sc
open Go.RowKit
open Tk (Tok)

/-- the command with one text -/
theorem rep_text {W : World} {F : Dom} {k : Int} {vt : Value} {l : List Str} (h : SAt cStr W F vt l) : (cCmd 1).rep W F ⟨k, l, T0, [], []⟩ [.int .i64 k, vt, .int .i64 0, .int .i64 0, .int .i64 0, .slice none 0 0, .slice none 0 0, .bool false, .int .i64 0, .slice none 0 0, .slice none 0 0, .slice none 0 0] :=
  ⟨vt, [.int .i64 0, .int .i64 0, .int .i64 0, .slice none 0 0, .slice none 0 0, .bool false, .int .i64 0, .slice none 0 0], .slice none 0 0, .slice none 0 0, rfl, h, ⟨_, _, _, rfl, SAt.nil _ _ _, SAt.nil _ _ _, SAt.nil _ _ _⟩, SAt.nil _ _ _, SAt.nil _ _ _⟩
end Go.Proofs.YtpfbkdbblpppdaaGreatDoor.Sc
