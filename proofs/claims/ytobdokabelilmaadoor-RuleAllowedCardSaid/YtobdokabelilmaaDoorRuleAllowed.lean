/-
  DERIVED. The law RuleAllowed: its walk.
-/
import Derived.Test.YtobdokabelilmaaDoorRuAll
namespace Go.Proofs.YtobdokabelilmaaDoor.Sc
open Go.RowKit

set_option maxHeartbeats 2000000 in
set_option maxRecDepth 20000 in
theorem flags_none (g off : Nat) (w : World) (hN : NamesAt w) (hc : w.cell? ⟨g, off, none⟩ = some (.string ⟨#[92, 78, 111, 110, 101]⟩)) :
    Calls Tryd.prog 20 #[.slice (some ⟨g, off, none⟩) 1 1] w fun e w' => e = .returned (.tuple #[.int .i64 0, .int .i64 7]) ∧ w = w' := by
  have hI : Hid (Calls Tryd.prog 35 #[.slice (some ⟨0, 0, none⟩) 5 5, .string ⟨#[92, 78, 111, 110, 101]⟩] w fun e w' => e = .returned (.int .i64 (-1)) ∧ w = w') := by
    have h := index_table 0 5 flagL [92, 78, 111, 110, 101] w (by decide) (fun j hj => by
      have := hN j hj
      rw [this]
      have e : ∀ j (h1 : j < flNames.length) (h2 : j < flagL.length), flNames[j] = ⟨flagL[j].toArray⟩ := by
        intro j h1 h2
        have : j = 0 ∨ j = 1 ∨ j = 2 ∨ j = 3 ∨ j = 4 := by
          have : flagL.length = 5 := rfl
          omega
        rcases this with rfl | rfl | rfl | rfl | rfl <;> rfl
      rw [e j hj hj])
    refine h.mono fun e w' h => ?_
    obtain ⟨⟨k, rfl, hk⟩, rfl⟩ := h
    rcases hk with ⟨-, h1⟩ | ⟨rfl, -⟩
    · exact absurd h1 (by decide)
    · exact ⟨rfl, rfl⟩
  clear hN
  go_enter Tryd.func20, Tryd.ntmps20
  go_wp2_with fail
  go_loop [4, 6, 7, 10] (fun o _ _ i => i = .int .i64 0) (fun _ _ _ _ => 0)
  case atStart => exact rfl
  case round =>
    obtain rfl := hrel
    go_wp2_with fail
    refine hI.out.mono ?_
    rintro e w1 ⟨rfl, rfl⟩
    go_wp2_with fail
    go_ret2
    exact ⟨rfl, rfl⟩
set_option maxHeartbeats 8000000 in
set_option maxRecDepth 20000 in
theorem ruleAllowed_any (l : List Stk) (v : Value) (n : Nat) (F : Dom) (m : Int) (w : World) (hv : SAt (cStk n) w F v l) (hlen : l.length ≤ 140737488351232) (hW : RW w m) :
    Calls Tryd.prog 8 #[v] w fun e w' => e = .returned (.bool true) ∧ Below w.heap.size w w' := by
  have HRW : Hid (∀ w', Below w.heap.size w w' → RW w' m) := fun w' hb => hW.down hb
  have HSC := Lib.hid (script_any l v n F w hv hlen hW.tab)
  obtain ⟨G0, c0, rfl, -⟩ := hv.form
  have hF := script_form l; have hG := script_good l; have hS := script_small l; have hk := script_toks l
  have h0 := rule_allowed l; have hm := rule_more l; have hl5 := script_len l
  obtain ⟨cs, hcs⟩ : ∃ cs, cs = scriptS l := ⟨_, rfl⟩
  rw [← hcs] at HSC hF hG hS hk h0 hm hl5
  have HF := Lib.hid hF; have HG := Lib.hid hG; have HS := Lib.hid hS; have HK := Lib.hid hk; have H0 := Lib.hid h0; have HMO := Lib.hid hm
  clear hv hcs hF hG hS hk h0 hm hlen hW
  go_enter Tryd.func8, Tryd.ntmps8
  go_wp2_with fail
  refine HSC.out.mono ?_
  intro e w1 h1
  obtain ⟨G1, c1, rfl, hs1, hb1⟩ := h1
  have HS1 := Lib.hid hs1; have HB1 := Lib.hid hb1
  have HREQ := Lib.hid (requires_any w1)
  clear hs1 hb1 HSC
  go_wp2_with fail
  refine HREQ.out.mono ?_
  intro e w2 h2
  obtain ⟨N, rfl, hN, hzN, hb2⟩ := h2
  unfold reqV
  obtain ⟨K, hK⟩ : ∃ K, K = w2.heap.size := ⟨_, rfl⟩
  have hal := ba (Below.refl w2.heap.size w2) (.cells #[.int .i64 1, .slice (some ⟨N, 0, none⟩) 4 4, .int .i64 0, .int .i64 0, .int .i64 0, .slice none 0 0, .slice none 0 0, .bool false, .int .i64 0, .slice none 0 0, .slice none 0 0, .slice none 0 0] 29)
  have hown := World.ownsRow_lit (base := w2.heap.size) (e := 29) (size := 12) w2 #[.int .i64 1, .slice (some ⟨N, 0, none⟩) 4 4, .int .i64 0, .int .i64 0, .int .i64 0, .slice none 0 0, .slice none 0 0, .bool false, .int .i64 0, .slice none 0 0, .slice none 0 0, .slice none 0 0] 1 (Nat.le_refl _) (by decide) rfl
  have hNl : N < w2.heap.size := hN.2.2
  have hz2 : (w2.alloc (.cells #[.int .i64 1, .slice (some ⟨N, 0, none⟩) 4 4, .int .i64 0, .int .i64 0, .int .i64 0, .slice none 0 0, .slice none 0 0, .bool false, .int .i64 0, .slice none 0 0, .slice none 0 0, .slice none 0 0] 29)).heap.size = w2.heap.size + 1 := World.size_alloc _ _
  obtain ⟨g1, o1, rfl⟩ : ∃ g off, G1 = some ⟨g, off, none⟩ := by
    obtain ⟨g, off, _, hG, -⟩ := HS1.out.get 0 (by omega)
    exact ⟨g, off, hG⟩
  have hb12 := bt hb2 hal
  have hs3 := SAt.bd (fun _ _ hr => cmd_bd 15 hr) HS1.out
  obtain ⟨ps, hp1, hp2, hp3⟩ := SAt.held (hs3.down hb12)
  have hpl : ps.length = cs.length := by have := congrArg List.length hp1; rwa [List.length_map] at this
  have hhl : (hcells ps).length = cs.length * 12 := by rw [hcells_length (k := 12) (fun p hp => (cCmd 15).len (hp2 p hp)), hpl]
  have h1c := cmd_cells hp2
  obtain ⟨i0, hi, hzi0, hzi1, hzi2⟩ := info_three info_cmd
  have HI0 := Lib.hid hi; have HZ0 := Lib.hid hzi0; have HZ1 := Lib.hid hzi1; have HZ2 := Lib.hid hzi2
  have HP3 := Lib.hid hp3; have HHL := Lib.hid hhl; have H1C := Lib.hid h1c
  have hw12 : w1.heap.size ≤ w2.heap.size := hb2.size
  have HPP : Hid (∀ (w5 : World) (g5 cap5 : Nat), w5.ownsRow w2.heap.size 29 12 (.slice (some ⟨g5, 0, none⟩) (1 + cs.length) cap5) (1 + cs.length) ([.int .i64 1, .slice (some ⟨N, 0, none⟩) 4 4, .int .i64 0, .int .i64 0, .int .i64 0, .slice none 0 0, .slice none 0 0, .bool false, .int .i64 0, .slice none 0 0, .slice none 0 0, .slice none 0 0] ++ hcells ps) → (w2.alloc (.cells #[.int .i64 1, .slice (some ⟨N, 0, none⟩) 4 4, .int .i64 0, .int .i64 0, .int .i64 0, .slice none 0 0, .slice none 0 0, .bool false, .int .i64 0, .slice none 0 0, .slice none 0 0, .slice none 0 0] 29)).grownBy w5 (some w2.heap.size) → (some w2.heap.size = some g5 ∨ g5 = (w2.alloc (.cells #[.int .i64 1, .slice (some ⟨N, 0, none⟩) 4 4, .int .i64 0, .int .i64 0, .int .i64 0, .slice none 0 0, .slice none 0 0, .bool false, .int .i64 0, .slice none 0 0, .slice none 0 0, .slice none 0 0] 29)).heap.size) →
      SAt (cCmd 15) w5 (fun _ => True) (.slice (some ⟨g5, 0, none⟩) (1 + cs.length) cap5) (reqC :: cs) ∧ SAt (cCmd 15) w5 (fun _ => True) (.slice (some ⟨g1, o1, none⟩) cs.length c1) cs ∧ Below w.heap.size w w5) := by
    intro w5 g5 cap5 h1 h2 h3
    refine ⟨cons_sat h1 h2 h3 hp1 (fun p hp => (cCmd 15).mono (hp2 p hp) (fun b hb => ⟨by have := hb.2; omega, by have := hb.2; omega⟩)) ?_, ?_, ?_⟩
    · exact cmd_le (by omega) (req_rep (F := fun b => b ≠ w2.heap.size ∧ b < (w2.alloc (.cells #[.int .i64 1, .slice (some ⟨N, 0, none⟩) 4 4, .int .i64 0, .int .i64 0, .int .i64 0, .slice none 0 0, .slice none 0 0, .bool false, .int .i64 0, .slice none 0 0, .slice none 0 0, .slice none 0 0] 29)).heap.size) (hN.down hal) ⟨by omega, by omega⟩)
    · exact ((hs3.down hb12).stable (Same.of_grown h2 (fun b e hF => by have e' : w2.heap.size = b := Option.some.inj e; have := hF.2; omega)) h2.size).mono (fun _ _ => trivial)
    · exact below_map (bt HB1.out hb12) h2 (fun b e => by have e' : w2.heap.size = b := Option.some.inj e; have := HB1.out.size; omega) (bt HB1.out hb12).size
  have HOWN := Lib.hid hown
  clear hal hown hb12 hs3 hp1 hp2 hp3 hhl h1c hi hzi0 hzi1 hzi2 hN hb2 HREQ hpl hK hz2
  go_wp2_with (at_builtin; refine wpList_append_lies _ (by rfl) _ _ _ (by rfl) w2.heap.size 29 i0 _ 12 192 Tryd.underlying27 HI0.out HZ0.out HZ1.out HZ2.out rfl (by omega) (.slice (some ⟨w2.heap.size, 0, none⟩) 1 1) 1 [.int .i64 1, .slice (some ⟨N, 0, none⟩) 4 4, .int .i64 0, .int .i64 0, .int .i64 0, .slice none 0 0, .slice none 0 0, .bool false, .int .i64 0, .slice none 0 0, .slice none 0 0, .slice none 0 0] (by rfl) HOWN.out ⟨g1, o1, none⟩ cs.length c1 (hcells ps) (by rfl) HHL.out HP3.out H1C.out (by omega) (by unfold maxLen; omega) (by omega) (by simp) (w2.heap.size + 1) (by simp) ?_)
  intro g5 cap5 w5 hown5 hgrow5 hat5 hlt5
  obtain ⟨hm5, hs5, hb5⟩ := HPP.out w5 g5 cap5 hown5 hgrow5 (by rw [World.size_alloc]; exact hat5)
  have hal6 := ba (Below.refl w5.heap.size w5) (.cells #[.string ⟨#[92, 78, 111, 110, 101]⟩] 9)
  have hb6 := bt hb5 hal6
  have HFL := Lib.hid (flags_none w5.heap.size 0 _ (HRW.out _ hb6).names.1 ((Has.alloc w5 [.string ⟨#[92, 78, 111, 110, 101]⟩] 9).1 0 _ rfl))
  have HM6 := Lib.hid (hm5.down hal6); have HS6 := Lib.hid (hs5.down hal6); have HB6 := Lib.hid hb6
  clear hown5 hgrow5 hat5 hlt5 hm5 hs5 hb5 hal6 hb6 HPP HOWN
  go_wp2_with fail
  refine HFL.out.mono ?_
  rintro e w' ⟨rfl, rfl⟩
  obtain ⟨W6, hW6⟩ : ∃ W6, W6 = w5.alloc (.cells #[.string ⟨#[92, 78, 111, 110, 101]⟩] 9) := ⟨_, rfl⟩
  rw [← hW6] at HM6 HS6 HB6 ⊢
  clear hW6 HFL
  have HC1 := Lib.hid (rule_any 15 cs _ _ m W6 (SAt.bd (fun _ _ hr => cmd_bd 15 hr) HS6.out) HF.out HG.out HS.out (fun b hb => hb.2) (HRW.out _ HB6.out) (by have := HK.out; omega))
  rw [H0.out] at HC1
  go_wp2_with fail
  refine HC1.out.mono ?_
  rintro e w7 ⟨rfl, hb7⟩
  have HB7 := Lib.hid (bt HB6.out hb7)
  have HC2 := Lib.hid (rule_any 15 (reqC :: cs) _ _ m w7 (SAt.bd (fun _ _ hr => cmd_bd 15 hr) (HM6.out.down hb7)) (fun c hc => by
    rcases List.mem_cons.1 hc with rfl | hc
    · exact req_form
    · exact HF.out c hc) (fun c hc => by
    rcases List.mem_cons.1 hc with rfl | hc
    · exact reqC_good
    · exact HG.out c hc) (fun c hc => by
    rcases List.mem_cons.1 hc with rfl | hc
    · exact reqC_small
    · exact HS.out c hc) (fun b hb => hb.2) (HRW.out _ HB7.out) (by
    rw [List.flatMap_cons, List.length_append]
    have h1 : (wC reqC).length = 11 := by decide
    have := HK.out
    omega))
  clear hb7 HC1
  obtain ⟨r, hr⟩ : ∃ r, r = ruleS (reqC :: cs) := ⟨_, rfl⟩
  have hmo := HMO.out
  rw [← hr] at HC2 hmo
  clear hr
  go_wp2_with fail
  refine HC2.out.mono ?_
  rintro e w8 ⟨rfl, hb8⟩
  have HB8 := Lib.hid (bt HB7.out hb8)
  clear hb8 HC2
  rcases hmo with rfl | rfl
  · go_wp2_with fail
    go_ret
    exact ⟨rfl, HB8.out⟩
  · go_wp2_with fail
    go_ret
    exact ⟨rfl, HB8.out⟩
theorem ruleAllowed_walk (v : Value) (n : Nat) (l : List Stk) (mx : Int) (W : World) (h : SAt (cStk n) W (fun _ => True) v l) (hlen : l.length ≤ 140737488351232) (hT : Tabs W W.heap.size) (hE : ExtAt W ∧ 1 < W.heap.size) (hN : NamesAt W ∧ 0 < W.heap.size) (hmx : W.cell? ⟨6, 0, none⟩ = some (.int .i64 mx)) :
    Calls Tryd.prog 8 #[v] W fun e w' => e = .returned (.bool true) ∧ Below W.heap.size W w' := ruleAllowed_any l v n _ mx W h hlen ⟨hT, hE, hN, hmx⟩
end Go.Proofs.YtobdokabelilmaaDoor.Sc
