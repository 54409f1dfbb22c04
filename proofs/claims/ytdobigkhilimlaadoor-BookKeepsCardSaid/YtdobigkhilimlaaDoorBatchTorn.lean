/-
  DERIVED. BatchTorn: the walk.
-/
import Derived.Test.YtdobigkhilimlaaDoorBatchBack
import Derived.Test.YtdobigkhilimlaaDoorTapes
namespace Go.Proofs.YtdobigkhilimlaaDoor
open Go.RowKit

/-- the first bytes -/
theorem bytes_front {w : World} {l : List UInt8} {G : Option Addr} {cp : Nat} (n : Nat) (h : Bytes w (.slice G l.length cp) l) (hn : n ≤ l.length) : Bytes w (.slice G n cp) (l.take n) := by
  obtain ⟨a, cap, hv, hc, hat, hap⟩ := h
  cases hv
  exact ⟨G, cp, by rw [List.length_take, Nat.min_eq_left hn], by rw [List.length_take]; omega, bytesAt_take hat n, hap⟩

set_option maxHeartbeats 8000000 in
set_option maxRecDepth 20000 in
theorem batchTorn_walk (a : Option Addr) (cap : Nat) (cs : List Raw) (at' : Int) (m : Int) (w : World) (h : RawsAt w a cs) (hlen : cs.length ≤ 9223372036854775807) (hu : Int64 at') (hm : w.cell? ⟨0, 0, none⟩ = some (.int .i64 m)) :
    Calls Tryd.prog 5 #[.slice a cs.length cap, .int .i64 at'] w fun e w' => e = .returned (.bool true) ∧ Below w.heap.size w w' := by
  have hB := Lib.hid (batchOf_any a cap cs 0 w h hlen ⟨by omega, by omega⟩)
  have hp0 : pick 0 (3 : Nat) = 0 := by decide
  rw [hp0] at hB
  obtain ⟨xs, hx⟩ : ∃ xs, xs = batchXs cs := ⟨_, rfl⟩
  have hg : GoodB (0, xs) := by rw [hx]; exact batchXs_good cs 0 (by omega)
  rw [← hx] at hB
  clear hx h hp0
  obtain ⟨g1, g2, g3⟩ := bcheck_inv hg
  have g2' : 1 ≤ xs.length ∧ xs.length ≤ 10 := g2
  have hE : Hid (∀ v w', EntsAt w' v xs → w'.cell? ⟨0, 0, none⟩ = some (.int .i64 m) → Calls Tryd.prog 11 #[.agg #[.int .i64 0, v]] w' fun e w'' => (∃ v', e = .returned (.tuple #[v', .int .i64 0]) ∧ OwnB w'' w'.heap.size 5 v' (batchL 0 xs)) ∧ Below w'.heap.size w' w'') := by
    intro v w' he hm
    have := encode_any 0 xs v m w' he (fun x hx => (small_of_form (g3 x hx)).fits) (by omega) (by omega) hm
    rw [show bcheckV 0 xs = 0 from hg, if_pos rfl] at this
    exact this
  have hgl : (batchL 0 xs).length ≤ 21300 := hg.len
  have hpos : 0 < (batchL 0 xs).length := Nat.succ_pos _
  have hpk := pick_lt at' (batchL 0 xs).length hpos
  have hP : Hid (∀ w, Calls Tryd.prog 15 #[.int .i64 at', .int .i64 (batchL 0 xs).length] w fun e w' => e = .returned (.int .i64 (pick at' (batchL 0 xs).length)) ∧ w = w') := fun w => picked_any at' _ w hu.1 hu.2 (by omega) (by omega)
  have hD : Hid (∀ v w' (p : Nat), p < (batchL 0 xs).length → Bytes w' v ((batchL 0 xs).take p) → w'.cell? ⟨0, 0, none⟩ = some (.int .i64 m) → Calls Tryd.prog 12 #[v] w' fun e w'' => (∃ (u : Nat) (v : Value) (n : Nat), e = .returned (.tuple #[.agg #[.int .i64 u, v], .int .i64 4]) ∧ SliceOf v n) ∧ Below w'.heap.size w' w'') := by
    intro v w' p hp h hm
    refine (decode_bytes v _ m w' h (by rw [List.length_take]; omega) hm).mono ?_
    rintro e w'' ⟨⟨v, rfl, he⟩, hb⟩
    have h3 : (decodeV ((batchL 0 xs).take p)).2 = 4 := decodeV_torn (b := (0, xs)) hg p hp
    exact ⟨⟨(decodeV ((batchL 0 xs).take p)).1.1, v, (decodeV ((batchL 0 xs).take p)).1.2.length, by rw [h3], he.slice⟩, hb⟩
  obtain ⟨B, hBB⟩ : ∃ B, B = batchL 0 xs := ⟨_, rfl⟩
  rw [← hBB] at hE hD hgl hpos hpk hP
  obtain ⟨p, hpp⟩ : ∃ p, p = pick at' B.length := ⟨_, rfl⟩
  rw [← hpp] at hP hpk
  clear hBB g1 g2 g3 hg hpp
  have HM := Lib.hid hm; clear hm
  go_enter Tryd.func5, Tryd.ntmps5
  go_wp2_with fail
  refine hB.out.mono ?_
  rintro e w1 ⟨⟨v, rfl, he⟩, hb1⟩
  obtain ⟨G, cp, rfl⟩ := he.slice
  have HE1 := Lib.hid he; have HB1 := Lib.hid hb1
  clear he hb1
  go_wp2_with fail
  refine (hE.out _ _ HE1.out (moved HM.out HB1.out (Nat.le_refl _))).mono ?_
  rintro e w2 ⟨⟨v2, rfl, ho2⟩, hb2⟩
  have hcf : ∃ gF cF, v2 = .slice (some ⟨gF, 0, none⟩) B.length cF ∧ B.length ≤ cF := by
    rcases ho2.2 with ⟨h, h0⟩ | ⟨g, cap, cur, h, _, _, hc, _⟩
    · omega
    · exact ⟨g, cap, h, hc⟩
  obtain ⟨gF, cF, rfl, hcF⟩ := hcf
  have HB2 := Lib.hid (bt HB1.out hb2); have HO2 := Lib.hid ho2.bytes
  clear hb2 ho2 HE1 HB1
  have hmx : max (B.length : Int) 1 = (B.length : Int) := Int.max_eq_left (by omega)
  go_wp2_with fail
  try rw [hmx]
  refine (hP.out _).mono ?_
  rintro e w3 ⟨rfl, rfl⟩
  clear hmx
  go_wp2_with fail
  refine (hD.out _ _ p hpk (bytes_front p HO2.out (by omega)) (moved HM.out HB2.out (Nat.le_refl _))).mono ?_
  rintro e w3 ⟨⟨u3, v3, n3, rfl, G3, cp3, rfl⟩, hb3⟩
  have HB3 := Lib.hid (bt HB2.out hb3)
  clear hb3
  go_wp2_with fail
  go_ret
  exact ⟨rfl, ba HB3.out _⟩
end Go.Proofs.YtdobigkhilimlaaDoor
