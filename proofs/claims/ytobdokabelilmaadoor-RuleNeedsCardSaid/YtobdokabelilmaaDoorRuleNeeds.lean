/-
  DERIVED. The law RuleNeeds: its walk.
-/
import Derived.Test.YtobdokabelilmaaDoorRuNeed
namespace Go.Proofs.YtobdokabelilmaaDoor.Sc
open Go.RowKit

theorem fileA_good : GoodC fileA := (GoodC.iff _).2 ⟨⟨fun _ => ⟨[97], rfl, by decide⟩, fun h => absurd h (by decide), fun h => absurd h (by decide), by decide, Nat.zero_le _, Nat.zero_le _⟩, T0_len, nilCmd, nilCmd⟩
theorem fileA_form : FormC fileA := (FormC.iff _).2 ⟨.inr (.inl ⟨.inl rfl, rfl⟩), .inr ⟨by decide, rfl, rfl, rfl⟩⟩
set_option maxHeartbeats 8000000 in
set_option maxRecDepth 20000 in
theorem ruleNeeds_any (l : List Stk) (v : Value) (n : Nat) (F : Dom) (m : Int) (w : World) (hv : SAt (cStk n) w F v l) (hlen : l.length ≤ 140737488351232) (hW : RW w m) :
    Calls Tryd.prog 9 #[v] w fun e w' => e = .returned (.bool true) ∧ Below w.heap.size w w' := by
  have HRW : Hid (∀ w', Below w.heap.size w w' → RW w' m) := fun w' hb => hW.down hb
  have HSC := Lib.hid (script_any l v n F w hv hlen hW.tab)
  obtain ⟨G0, c0, rfl, -⟩ := hv.form
  have hF := script_form l; have hG := script_good l; have hS := script_small l; have hk := script_toks l
  have h0 := rule_needs l; have hl5 := script_len l
  obtain ⟨cs, hcs⟩ : ∃ cs, cs = scriptS l := ⟨_, rfl⟩
  rw [← hcs] at HSC hF hG hS hk h0 hl5
  have HF := Lib.hid (fun c (hc : c ∈ cs.drop 1) => hF c (List.mem_of_mem_drop hc)); have HG := Lib.hid (fun c (hc : c ∈ cs.drop 1) => hG c (List.mem_of_mem_drop hc)); have HS := Lib.hid (fun c (hc : c ∈ cs.drop 1) => hS c (List.mem_of_mem_drop hc))
  have hk1 : ((cs.drop 1).flatMap wC).length ≤ 1000000 := by
    have e : cs.flatMap wC = (cs.take 1).flatMap wC ++ (cs.drop 1).flatMap wC := by rw [← List.flatMap_append, List.take_append_drop]
    rw [e, List.length_append] at hk; omega
  have HK := Lib.hid hk1; have H0 := Lib.hid h0
  clear hv hcs hF hG hS hk hk1 h0 hlen hW
  go_enter Tryd.func9, Tryd.ntmps9
  go_wp2_with fail
  refine HSC.out.mono ?_
  intro e w1 h1
  obtain ⟨G1, c1, rfl, hs1, hb1⟩ := h1
  have HB1 := Lib.hid hb1
  obtain ⟨g1, o1, rfl⟩ : ∃ g off, G1 = some ⟨g, off, none⟩ := by
    obtain ⟨g, off, _, hG, -⟩ := hs1.get 0 (by omega)
    exact ⟨g, off, hG⟩
  have hc1 : cs.length ≤ c1 := by obtain ⟨_, c', e, h, -⟩ := hs1; injection e with _ _ e3; omega
  have hsr := sat_rest (k := 0) (l := cs) (SAt.bd (fun _ _ hr => cmd_bd 15 hr) hs1)
  have HSR := Lib.hid hsr
  have i1 : (1 : Int) ≤ cs.length := by omega
  have i2 : 1 ≤ cs.length := by omega
  have i3 : 1 ≤ c1 := by omega
  clear hs1 hb1 HSC hsr
  obtain ⟨R, hR⟩ : ∃ R, R = ruleS (cs.drop 1) := ⟨_, rfl⟩
  obtain ⟨b, hb⟩ : ∃ b, b = needCs (cs.drop 1) := ⟨_, rfl⟩
  have h0 := H0.out
  rw [← hR, ← hb] at h0
  have hlz : (cs.drop 1).length = cs.length - 1 := by rw [List.length_drop]
  have hsh : ∃ (G2 : Option Addr) (c2 : Nat), SAt (cCmd 15) w1 (fun b => w.heap.size ≤ b ∧ b < w1.heap.size) (.slice G2 (cs.length - 1) c2) (cs.drop 1) ∧ ((1 < c1 ∧ G2 = some ⟨g1, o1 + 12, none⟩ ∧ c2 = c1 - 1) ∨ (c1 = 1 ∧ cs.length - 1 = 0 ∧ G2 = some ⟨g1, o1, none⟩ ∧ c2 = 0)) := by
    by_cases h : 1 < c1
    · exact ⟨_, _, HSR.out i2 _ _ (fun _ => ⟨rfl, rfl⟩) (by omega), .inl ⟨h, rfl, rfl⟩⟩
    · exact ⟨_, 0, HSR.out i2 (some ⟨g1, o1, none⟩) 0 (fun h' => absurd h' h) (by omega), .inr ⟨by omega, by omega, rfl, rfl⟩⟩
  obtain ⟨G2, c2, hs2, hways⟩ := hsh
  have HR1 := Lib.hid (rule_any 15 (cs.drop 1) _ _ m w1 hs2 HF.out HG.out HS.out (fun b hb => hb.2) (HRW.out _ HB1.out) HK.out)
  have HN1 : Hid (∀ w', Below w1.heap.size w1 w' → Calls Tryd.prog 22 #[.slice G2 (cs.length - 1) c2] w' (BoolPost b w')) := fun w' hb' => by
    have := needs_all 15 (cs.drop 1) _ _ w' (hs2.down hb') HG.out (by omega)
    rwa [← hb] at this
  rw [← hR] at HR1
  have HH := Lib.hid h0
  clear hR hb h0 hs2 hlz HSR H0
  rcases hways with ⟨k1, rfl, rfl⟩ | ⟨rfl, k2, rfl, rfl⟩
  · have k1' : (1 : Int) < c1 := by omega
    go_wp2_with fail
    refine HR1.out.mono ?_
    rintro e w2 ⟨rfl, hb2⟩
    have HB2 := Lib.hid hb2
    clear hb2 HR1
    go_wp2_with fail
    refine (HN1.out _ HB2.out).mono ?_
    rintro e w3 ⟨rfl, hb3⟩
    have HB3 := Lib.hid (bt HB1.out (bt HB2.out hb3))
    clear hb3 HN1
    cases b with
    | true =>
      obtain rfl : R = 8 := HH.out
      go_wp2_with fail
      go_ret
      exact ⟨rfl, HB3.out⟩
    | false =>
      obtain rfl : R = 0 := HH.out
      have hA1 := ba (Below.refl w3.heap.size w3) (.cells #[.string ⟨#[97]⟩] 9)
      have hA2 := ba hA1 (.cells #[.int .i64 5, .slice (some ⟨w3.heap.size, 0, none⟩) 1 1, .int .i64 0, .int .i64 0, .int .i64 0, .slice none 0 0, .slice none 0 0, .bool false, .int .i64 0, .slice none 0 0, .slice none 0 0, .slice none 0 0] 29)
      have hstr := (Has.alloc w3 (strs [[97]]) 9).down (ba (Below.refl _ _) (.cells #[.int .i64 5, .slice (some ⟨w3.heap.size, 0, none⟩) 1 1, .int .i64 0, .int .i64 0, .int .i64 0, .slice none 0 0, .slice none 0 0, .bool false, .int .i64 0, .slice none 0 0, .slice none 0 0, .slice none 0 0] 29))
      have hC := Has.alloc (w3.alloc (.cells #[.string ⟨#[97]⟩] 9)) [.int .i64 5, .slice (some ⟨w3.heap.size, 0, none⟩) 1 1, .int .i64 0, .int .i64 0, .int .i64 0, .slice none 0 0, .slice none 0 0, .bool false, .int .i64 0, .slice none 0 0, .slice none 0 0, .slice none 0 0] 29
      rw [World.size_alloc] at hC
      have hrep : (cCmd 1).rep ((w3.alloc (.cells #[.string ⟨#[97]⟩] 9)).alloc (.cells #[.int .i64 5, .slice (some ⟨w3.heap.size, 0, none⟩) 1 1, .int .i64 0, .int .i64 0, .int .i64 0, .slice none 0 0, .slice none 0 0, .bool false, .int .i64 0, .slice none 0 0, .slice none 0 0, .slice none 0 0] 29)) (fun b => b < w3.heap.size + 2) fileA [.int .i64 5, .slice (some ⟨w3.heap.size, 0, none⟩) 1 1, .int .i64 0, .int .i64 0, .int .i64 0, .slice none 0 0, .slice none 0 0, .bool false, .int .i64 0, .slice none 0 0, .slice none 0 0, .slice none 0 0] := rep_text (k := 5) (sat_strs hstr (by show w3.heap.size < _; omega))
      have HRF := Lib.hid (rule_any 1 [fileA] _ _ m _ (sat_lone hrep hC (by show w3.heap.size + 1 < _; omega)) (fun c hc => by rw [List.mem_singleton] at hc; rw [hc]; exact fileA_form) (fun c hc => by rw [List.mem_singleton] at hc; rw [hc]; exact fileA_good) (fun c hc s hs => by rw [List.mem_singleton] at hc; subst hc; rw [List.mem_singleton.1 hs]; decide) (fun b hb => by rw [World.size_alloc, World.size_alloc]; omega) (HRW.out _ (bt HB3.out hA2)) (by decide))
      rw [rule_file] at HRF
      have HB4 := Lib.hid (bt HB3.out hA2)
      clear hA1 hA2 hstr hC hrep
      go_wp2_with fail
      refine HRF.out.mono ?_
      rintro e w4 ⟨rfl, hb4⟩
      have HB5 := Lib.hid (bt HB4.out hb4)
      clear hb4 HRF
      go_wp2_with fail
      go_ret
      exact ⟨rfl, HB5.out⟩
  · have k2' := Lib.hid k2
    rw [k2] at HR1 HN1
    have k3 : cs.length = 1 := by omega
    clear k2
    rw [k3]
    clear k3 i1 i2 hc1 hl5
    go_wp2_with fail
    refine HR1.out.mono ?_
    rintro e w2 ⟨rfl, hb2⟩
    have HB2 := Lib.hid hb2
    clear hb2 HR1
    go_wp2_with fail
    refine (HN1.out _ HB2.out).mono ?_
    rintro e w3 ⟨rfl, hb3⟩
    have HB3 := Lib.hid (bt HB1.out (bt HB2.out hb3))
    clear hb3 HN1
    cases b with
    | true =>
      obtain rfl : R = 8 := HH.out
      go_wp2_with fail
      go_ret
      exact ⟨rfl, HB3.out⟩
    | false =>
      obtain rfl : R = 0 := HH.out
      have hA1 := ba (Below.refl w3.heap.size w3) (.cells #[.string ⟨#[97]⟩] 9)
      have hA2 := ba hA1 (.cells #[.int .i64 5, .slice (some ⟨w3.heap.size, 0, none⟩) 1 1, .int .i64 0, .int .i64 0, .int .i64 0, .slice none 0 0, .slice none 0 0, .bool false, .int .i64 0, .slice none 0 0, .slice none 0 0, .slice none 0 0] 29)
      have hstr := (Has.alloc w3 (strs [[97]]) 9).down (ba (Below.refl _ _) (.cells #[.int .i64 5, .slice (some ⟨w3.heap.size, 0, none⟩) 1 1, .int .i64 0, .int .i64 0, .int .i64 0, .slice none 0 0, .slice none 0 0, .bool false, .int .i64 0, .slice none 0 0, .slice none 0 0, .slice none 0 0] 29))
      have hC := Has.alloc (w3.alloc (.cells #[.string ⟨#[97]⟩] 9)) [.int .i64 5, .slice (some ⟨w3.heap.size, 0, none⟩) 1 1, .int .i64 0, .int .i64 0, .int .i64 0, .slice none 0 0, .slice none 0 0, .bool false, .int .i64 0, .slice none 0 0, .slice none 0 0, .slice none 0 0] 29
      rw [World.size_alloc] at hC
      have hrep : (cCmd 1).rep ((w3.alloc (.cells #[.string ⟨#[97]⟩] 9)).alloc (.cells #[.int .i64 5, .slice (some ⟨w3.heap.size, 0, none⟩) 1 1, .int .i64 0, .int .i64 0, .int .i64 0, .slice none 0 0, .slice none 0 0, .bool false, .int .i64 0, .slice none 0 0, .slice none 0 0, .slice none 0 0] 29)) (fun b => b < w3.heap.size + 2) fileA [.int .i64 5, .slice (some ⟨w3.heap.size, 0, none⟩) 1 1, .int .i64 0, .int .i64 0, .int .i64 0, .slice none 0 0, .slice none 0 0, .bool false, .int .i64 0, .slice none 0 0, .slice none 0 0, .slice none 0 0] := rep_text (k := 5) (sat_strs hstr (by show w3.heap.size < _; omega))
      have HRF := Lib.hid (rule_any 1 [fileA] _ _ m _ (sat_lone hrep hC (by show w3.heap.size + 1 < _; omega)) (fun c hc => by rw [List.mem_singleton] at hc; rw [hc]; exact fileA_form) (fun c hc => by rw [List.mem_singleton] at hc; rw [hc]; exact fileA_good) (fun c hc s hs => by rw [List.mem_singleton] at hc; subst hc; rw [List.mem_singleton.1 hs]; decide) (fun b hb => by rw [World.size_alloc, World.size_alloc]; omega) (HRW.out _ (bt HB3.out hA2)) (by decide))
      rw [rule_file] at HRF
      have HB4 := Lib.hid (bt HB3.out hA2)
      clear hA1 hA2 hstr hC hrep
      go_wp2_with fail
      refine HRF.out.mono ?_
      rintro e w4 ⟨rfl, hb4⟩
      have HB5 := Lib.hid (bt HB4.out hb4)
      clear hb4 HRF
      go_wp2_with fail
      go_ret
      exact ⟨rfl, HB5.out⟩
theorem ruleNeeds_walk (v : Value) (n : Nat) (l : List Stk) (mx : Int) (W : World) (h : SAt (cStk n) W (fun _ => True) v l) (hlen : l.length ≤ 140737488351232) (hT : Tabs W W.heap.size) (hE : ExtAt W ∧ 1 < W.heap.size) (hN : NamesAt W ∧ 0 < W.heap.size) (hmx : W.cell? ⟨6, 0, none⟩ = some (.int .i64 mx)) :
    Calls Tryd.prog 9 #[v] W fun e w' => e = .returned (.bool true) ∧ Below W.heap.size W w' := ruleNeeds_any l v n _ mx W h hlen ⟨hT, hE, hN, hmx⟩
end Go.Proofs.YtobdokabelilmaaDoor.Sc
