/-
  DERIVED. The law RuleLate: its walk.
-/
import Derived.Test.YtobdokabelilmaaDoorRuAll
namespace Go.Proofs.YtobdokabelilmaaDoor.Sc
open Go.RowKit

theorem keepA_form : FormC keepA := (FormC.iff _).2 ⟨.inr (.inr ⟨.inr (.inl rfl), rfl⟩), .inr ⟨by decide, rfl, rfl, rfl⟩⟩
theorem oddC_form : FormC oddC := (FormC.iff _).2 ⟨.inl ⟨.inl rfl, Nat.one_pos⟩, .inr ⟨by decide, rfl, rfl, rfl⟩⟩
theorem keepA_good : GoodC keepA := (GoodC.iff _).2 ⟨⟨fun h => absurd h (by decide), fun h => absurd h (by decide), fun h => absurd h (by decide), by decide, Nat.zero_le _, Nat.zero_le _⟩, T0_len, nilCmd, nilCmd⟩
theorem oddC_good : GoodC oddC := (GoodC.iff _).2 ⟨⟨fun h => absurd h (by decide), fun h => absurd h (by decide), fun h => absurd h (by decide), by decide, Nat.zero_le _, Nat.zero_le _⟩, T0_len, nilCmd, nilCmd⟩
theorem keepA_rep (w : World) (F : Dom) : (cCmd 15).rep w F keepA [.int .i64 3, .slice none 0 0, .int .i64 0, .int .i64 0, .int .i64 0, .slice none 0 0, .slice none 0 0, .bool false, .int .i64 0, .slice none 0 0, .slice none 0 0, .slice none 0 0] := cmd_le (by omega) (rep_text (k := 3) (SAt.nil _ _ _) : (cCmd 1).rep w F keepA [.int .i64 3, .slice none 0 0, .int .i64 0, .int .i64 0, .int .i64 0, .slice none 0 0, .slice none 0 0, .bool false, .int .i64 0, .slice none 0 0, .slice none 0 0, .slice none 0 0])
def keepV : List Value := [.int .i64 3, .slice none 0 0, .int .i64 0, .int .i64 0, .int .i64 0, .slice none 0 0, .slice none 0 0, .bool false, .int .i64 0, .slice none 0 0, .slice none 0 0, .slice none 0 0]
theorem held_sat {KB g cap : Nat} {w3 w5 : World} {xs : Held Cmd} (hown : w5.ownsRow KB 29 12 (.slice (some ⟨g, 0, none⟩) xs.length cap) xs.length (hcells xs)) (hgrow : w3.grownBy w5 (some KB)) (hat : some KB = some g ∨ g = w3.heap.size)
    (hx : ∀ p ∈ xs, (cCmd 15).rep w3 (fun b => b ≠ KB ∧ b < w3.heap.size) p.1 p.2) : SAt (cCmd 15) w5 (fun _ => True) (.slice (some ⟨g, 0, none⟩) xs.length cap) (xs.map Prod.fst) := by
  refine ORow.sat (base := KB) (S := fun b => b ≠ KB ∧ b < w3.heap.size) (e := 29) ⟨hown, fun p hp => (cCmd 15).stable (hx p hp) (Same.of_grown hgrow (fun b e hF => by have e' : KB = b := Option.some.inj e; exact hF.1 e'.symm)) hgrow.size, fun b hb hh => ?_⟩ (fun _ _ => trivial) (fun _ _ => trivial)
  have e' : g = b := Option.some.inj hb
  rcases hat with h | h
  · have h' : KB = g := Option.some.inj h
    exact hh.1 (by omega)
  · have := hh.2; omega
theorem late_sat {N g cap : Nat} {S : Dom} {w1 w7 w8 : World} {ps : Held Cmd} {cs : List Cmd} (hown : w8.ownsRow w1.heap.size 29 12 (.slice (some ⟨g, 0, none⟩) (cs.length + 2) cap) (cs.length + 2) (hcells ps ++ [.int .i64 3, .slice none 0 0, .int .i64 0, .int .i64 0, .int .i64 0, .slice none 0 0, .slice none 0 0, .bool false, .int .i64 0, .slice none 0 0, .slice none 0 0, .slice none 0 0, .int .i64 1, .slice (some ⟨N, 0, none⟩) 4 4, .int .i64 0, .int .i64 0, .int .i64 0, .slice none 0 0, .slice none 0 0, .bool false, .int .i64 0, .slice none 0 0, .slice none 0 0, .slice none 0 0])) (hgrow : w7.grownBy w8 (some w1.heap.size)) (hat : some w1.heap.size = some g ∨ g = w7.heap.size)
    (hp1 : ps.map Prod.fst = cs) (hb : Below w1.heap.size w1 w7) (hp2 : ∀ p ∈ ps, (cCmd 15).rep w1 S p.1 p.2) (hS : ∀ b, S b → b < w1.heap.size) (hN : Has w7 N (strs reqC.texts)) (hN' : w1.heap.size < N) : SAt (cCmd 15) w8 (fun _ => True) (.slice (some ⟨g, 0, none⟩) (cs.length + 2) cap) (cs ++ [keepA, reqC]) := by
  have e1 : cs ++ [keepA, reqC] = (ps ++ [(keepA, keepV), (reqC, reqV N)]).map Prod.fst := by rw [List.map_append, hp1]; rfl
  have e2 : (ps ++ [(keepA, keepV), (reqC, reqV N)]).length = cs.length + 2 := by rw [List.length_append, ← hp1, List.length_map]; simp
  have e3 : hcells (ps ++ [(keepA, keepV), (reqC, reqV N)]) = hcells ps ++ [.int .i64 3, .slice none 0 0, .int .i64 0, .int .i64 0, .int .i64 0, .slice none 0 0, .slice none 0 0, .bool false, .int .i64 0, .slice none 0 0, .slice none 0 0, .slice none 0 0, .int .i64 1, .slice (some ⟨N, 0, none⟩) 4 4, .int .i64 0, .int .i64 0, .int .i64 0, .slice none 0 0, .slice none 0 0, .bool false, .int .i64 0, .slice none 0 0, .slice none 0 0, .slice none 0 0] := by simp [hcells, reqV, keepV]
  rw [e1, ← e2]
  refine held_sat ?_ hgrow hat ?_
  · rw [e2, e3]; exact hown
  · have hz := hb.size
    intro p hp
    rcases List.mem_append.1 hp with hp | hp
    · exact (cCmd 15).mono ((cCmd 15).stable (hp2 p hp) (Same.of_below hb) hz) (fun b h => ⟨by have := hS b h; omega, by have := hS b h; omega⟩)
    · rcases List.mem_cons.1 hp with rfl | hp
      · exact keepA_rep _ _
      · obtain rfl := List.mem_singleton.1 hp
        exact cmd_le (by omega) (req_rep hN ⟨by omega, hN.2.2⟩)
set_option maxHeartbeats 8000000 in
set_option maxRecDepth 20000 in
theorem ruleLate_any (l : List Stk) (v : Value) (n : Nat) (F : Dom) (m : Int) (w : World) (hv : SAt (cStk n) w F v l) (hlen : l.length ≤ 140737488351232) (hW : RW w m) :
    Calls Tryd.prog 10 #[v] w fun e w' => e = .returned (.bool true) ∧ Below w.heap.size w w' := by
  have HRW : Hid (∀ w', Below w.heap.size w w' → RW w' m) := fun w' hb => hW.down hb
  have HSC := Lib.hid (script_any l v n F w hv hlen hW.tab)
  obtain ⟨G0, c0, rfl, -⟩ := hv.form
  have hF := script_form l; have hG := script_good l; have hS := script_small l; have hk := script_toks l
  have h0 := rule_late l; have hm := rule_odd l; have hl5 := script_len l
  obtain ⟨cs, hcs⟩ : ∃ cs, cs = scriptS l := ⟨_, rfl⟩
  rw [← hcs] at HSC hF hG hS hk h0 hm hl5
  have HF := Lib.hid hF; have HG := Lib.hid hG; have HS := Lib.hid hS; have HK := Lib.hid hk; have H0 := Lib.hid h0; have HMO := Lib.hid hm
  clear hv hcs hF hG hS hk h0 hm hlen hW
  obtain ⟨i0, hi, hzi0, hzi1, hzi2⟩ := info_three info_cmd
  have HI0 := Lib.hid hi; have HZ0 := Lib.hid hzi0; have HZ1 := Lib.hid hzi1; have HZ2 := Lib.hid hzi2
  clear hi hzi0 hzi1 hzi2
  go_enter Tryd.func10, Tryd.ntmps10
  go_wp2_with fail
  refine HSC.out.mono ?_
  intro e w1 h1
  obtain ⟨G1, c1, rfl, hs1, hb1⟩ := h1
  have HB1 := Lib.hid hb1
  obtain ⟨g1, o1, rfl⟩ : ∃ g off, G1 = some ⟨g, off, none⟩ := by
    obtain ⟨g, off, _, hG, -⟩ := hs1.get 0 (by omega)
    exact ⟨g, off, hG⟩
  have hs3 := SAt.bd (fun _ _ hr => cmd_bd 15 hr) hs1
  obtain ⟨ps, hp1, hp2, hp3⟩ := SAt.held hs3
  have hpl : ps.length = cs.length := by have := congrArg List.length hp1; rwa [List.length_map] at this
  have hhl : (hcells ps).length = cs.length * 12 := by rw [hcells_length (k := 12) (fun p hp => (cCmd 15).len (hp2 p hp)), hpl]
  have h1c := cmd_cells hp2
  have HS3 := Lib.hid hs3; have HP1 := Lib.hid hp1; have HP2 := Lib.hid hp2; have HP3 := Lib.hid hp3; have HHL := Lib.hid hhl; have H1C := Lib.hid h1c; have HPL := Lib.hid hpl
  clear hs1 hb1 HSC hs3 hp1 hp2 hp3 hhl h1c hpl
  go_wp2_with (at_builtin; refine wpList_append_lies _ (by rfl) _ _ _ (by rfl) w1.heap.size 29 i0 _ 12 192 Tryd.underlying27 HI0.out HZ0.out HZ1.out HZ2.out rfl (by omega) (.slice none 0 0) 0 [] (by rfl) (World.ownsRow_nil _ _ _ _) ⟨g1, o1, none⟩ cs.length c1 (hcells ps) (by rfl) HHL.out HP3.out H1C.out (by omega) (by unfold maxLen; omega) (by omega) (Nat.le_refl _) w1.heap.size rfl ?_)
  intro g5 cap5 w5 hown5 hgrow5 hat5 hlt5
  obtain rfl : g5 = w1.heap.size := by
    rcases hat5 with h | h
    · cases h
    · exact h
  have hb5 : Below w1.heap.size w1 w5 := below_map (Below.refl _ _) hgrow5 (fun b e => by cases e) (Nat.le_refl _)
  have HREQ := Lib.hid (requires_any w5)
  have HOWN5 := Lib.hid hown5; have HB5 := Lib.hid hb5
  clear hown5 hgrow5 hat5 hb5
  go_wp2_with fail
  refine HREQ.out.mono ?_
  intro e w6 h6
  obtain ⟨N, rfl, hN, hzN, hb6⟩ := h6
  unfold reqV
  have hal := ba (Below.refl w6.heap.size w6) (.cells #[.int .i64 3, .slice none 0 0, .int .i64 0, .int .i64 0, .int .i64 0, .slice none 0 0, .slice none 0 0, .bool false, .int .i64 0, .slice none 0 0, .slice none 0 0, .slice none 0 0, .int .i64 1, .slice (some ⟨N, 0, none⟩) 4 4, .int .i64 0, .int .i64 0, .int .i64 0, .slice none 0 0, .slice none 0 0, .bool false, .int .i64 0, .slice none 0 0, .slice none 0 0, .slice none 0 0] 29)
  have hown7 := row_down (row_down HOWN5.out hb6) hal
  have hN7 := hN.down hal
  have hb7 := bt hb6 hal
  have hNl : N < w6.heap.size := hN.2.2
  have hz6 : w5.heap.size ≤ w6.heap.size := hb6.size
  have hz1 : w1.heap.size < w5.heap.size := hlt5
  have HOWN7 := Lib.hid hown7; have HN7 := Lib.hid hN7; have HB7 := Lib.hid (HB5.out.trans (hb7.mono (by omega)))
  have HNEW := Lib.hid (news_of w6 [.int .i64 3, .slice none 0 0, .int .i64 0, .int .i64 0, .int .i64 0, .slice none 0 0, .slice none 0 0, .bool false, .int .i64 0, .slice none 0 0, .slice none 0 0, .slice none 0 0, .int .i64 1, .slice (some ⟨N, 0, none⟩) 4 4, .int .i64 0, .int .i64 0, .int .i64 0, .slice none 0 0, .slice none 0 0, .bool false, .int .i64 0, .slice none 0 0, .slice none 0 0, .slice none 0 0] 29)
  clear hal hown7 hN7 hb7 hN hb6 HOWN5 HREQ
  go_wp2_with (at_builtin; refine wpList_append_lies _ (by rfl) _ _ _ (by rfl) w1.heap.size 29 i0 _ 12 192 Tryd.underlying27 HI0.out HZ0.out HZ1.out HZ2.out rfl (by omega) (.slice (some ⟨w1.heap.size, 0, none⟩) cs.length cap5) cs.length (hcells ps) (by rfl) HOWN7.out ⟨w6.heap.size, 0, none⟩ 2 2 [.int .i64 3, .slice none 0 0, .int .i64 0, .int .i64 0, .int .i64 0, .slice none 0 0, .slice none 0 0, .bool false, .int .i64 0, .slice none 0 0, .slice none 0 0, .slice none 0 0, .int .i64 1, .slice (some ⟨N, 0, none⟩) 4 4, .int .i64 0, .int .i64 0, .int .i64 0, .slice none 0 0, .slice none 0 0, .bool false, .int .i64 0, .slice none 0 0, .slice none 0 0, .slice none 0 0] (by rfl) (by rfl) HNEW.out (by simp [Value.oneCell']) (by omega) (by unfold maxLen; omega) (by omega) (by simp; omega) (w6.heap.size + 1) (by simp) ?_)
  intro g8 cap8 w8 hown8 hgrow8 hat8 hlt8
  have hg8 : (w6.alloc (.cells #[.int .i64 3, .slice none 0 0, .int .i64 0, .int .i64 0, .int .i64 0, .slice none 0 0, .slice none 0 0, .bool false, .int .i64 0, .slice none 0 0, .slice none 0 0, .slice none 0 0, .int .i64 1, .slice (some ⟨N, 0, none⟩) 4 4, .int .i64 0, .int .i64 0, .int .i64 0, .slice none 0 0, .slice none 0 0, .bool false, .int .i64 0, .slice none 0 0, .slice none 0 0, .slice none 0 0] 29)).grownBy w8 (some w1.heap.size) := hgrow8
  have hm8 := late_sat hown8 hg8 (by rw [World.size_alloc]; exact hat8) HP1.out HB7.out HP2.out (fun b hb => hb.2) HN7.out (by omega)
  have hb8 : Below w1.heap.size w1 w8 := below_map HB7.out hg8 (fun b e => by have e' : w1.heap.size = b := Option.some.inj e; omega) HB7.out.size
  have hz8 : w1.heap.size ≤ w8.heap.size := hb8.size
  have hA1 := ba (Below.refl w8.heap.size w8) (.cells #[.string ⟨#[118, 97, 114, 105, 97, 98, 108, 101, 115]⟩] 9)
  have hA2 := ba hA1 (.cells #[.int .i64 1, .slice (some ⟨w8.heap.size, 0, none⟩) 1 1, .int .i64 0, .int .i64 0, .int .i64 0, .slice none 0 0, .slice none 0 0, .bool false, .int .i64 0, .slice none 0 0, .slice none 0 0, .slice none 0 0] 29)
  have hstr := (Has.alloc w8 (strs [[118, 97, 114, 105, 97, 98, 108, 101, 115]]) 9).down (ba (Below.refl _ _) (.cells #[.int .i64 1, .slice (some ⟨w8.heap.size, 0, none⟩) 1 1, .int .i64 0, .int .i64 0, .int .i64 0, .slice none 0 0, .slice none 0 0, .bool false, .int .i64 0, .slice none 0 0, .slice none 0 0, .slice none 0 0] 29))
  have hown10 := World.ownsRow_lit (base := w8.heap.size + 1) (e := 29) (size := 12) (w8.alloc (.cells #[.string ⟨#[118, 97, 114, 105, 97, 98, 108, 101, 115]⟩] 9)) #[.int .i64 1, .slice (some ⟨w8.heap.size, 0, none⟩) 1 1, .int .i64 0, .int .i64 0, .int .i64 0, .slice none 0 0, .slice none 0 0, .bool false, .int .i64 0, .slice none 0 0, .slice none 0 0, .slice none 0 0] 1 (by rw [World.size_alloc]; omega) (by decide) rfl
  rw [World.size_alloc] at hown10
  have hb10 := bt hb8 hA2
  obtain ⟨qs, hq1, hq2, hq3⟩ := SAt.held (HS3.out.down hb10)
  have hql : qs.length = cs.length := by have := congrArg List.length hq1; rwa [List.length_map] at this
  have hhl : (hcells qs).length = cs.length * 12 := by rw [hcells_length (k := 12) (fun p hp => (cCmd 15).len (hq2 p hp)), hql]
  have h1c := cmd_cells hq2
  have hs10 : ((w8.alloc (.cells #[.string ⟨#[118, 97, 114, 105, 97, 98, 108, 101, 115]⟩] 9)).alloc (.cells #[.int .i64 1, .slice (some ⟨w8.heap.size, 0, none⟩) 1 1, .int .i64 0, .int .i64 0, .int .i64 0, .slice none 0 0, .slice none 0 0, .bool false, .int .i64 0, .slice none 0 0, .slice none 0 0, .slice none 0 0] 29)).heap.size = w8.heap.size + 2 := by rw [World.size_alloc, World.size_alloc]
  have HPP : Hid (∀ (w12 : World) (g12 cap12 : Nat), w12.ownsRow (w8.heap.size + 1) 29 12 (.slice (some ⟨g12, 0, none⟩) (1 + cs.length) cap12) (1 + cs.length) ([.int .i64 1, .slice (some ⟨w8.heap.size, 0, none⟩) 1 1, .int .i64 0, .int .i64 0, .int .i64 0, .slice none 0 0, .slice none 0 0, .bool false, .int .i64 0, .slice none 0 0, .slice none 0 0, .slice none 0 0] ++ hcells qs) → ((w8.alloc (.cells #[.string ⟨#[118, 97, 114, 105, 97, 98, 108, 101, 115]⟩] 9)).alloc (.cells #[.int .i64 1, .slice (some ⟨w8.heap.size, 0, none⟩) 1 1, .int .i64 0, .int .i64 0, .int .i64 0, .slice none 0 0, .slice none 0 0, .bool false, .int .i64 0, .slice none 0 0, .slice none 0 0, .slice none 0 0] 29)).grownBy w12 (some (w8.heap.size + 1)) → (some (w8.heap.size + 1) = some g12 ∨ g12 = w8.heap.size + 2) →
      SAt (cCmd 15) w12 (fun _ => True) (.slice (some ⟨g12, 0, none⟩) (1 + cs.length) cap12) (oddC :: cs) ∧ SAt (cCmd 15) w12 (fun _ => True) (.slice (some ⟨g8, 0, none⟩) (cs.length + 2) cap8) (cs ++ [keepA, reqC]) ∧ Below w.heap.size w w12) := by
    intro w12 g12 cap12 h1 h2 h3
    have hb12 : Below w8.heap.size w8 w12 := below_map hA2 h2 (fun b e => by have e' : w8.heap.size + 1 = b := Option.some.inj e; omega) hA2.size
    refine ⟨cons_sat h1 h2 (by rw [hs10]; exact h3) hq1 (fun p hp => (cCmd 15).mono (hq2 p hp) (fun b hb => ⟨by have := hb.2; omega, by have := hb.2; omega⟩)) ?_, hm8.down hb12, bt HB1.out (hb8.trans (hb12.mono hz8))⟩
    exact cmd_le (by omega) (rep_text (k := 1) (sat_strs hstr ⟨by omega, by omega⟩) : (cCmd 1).rep _ _ oddC _)
  have HOWN10 := Lib.hid (hown10)
  have HHQ := Lib.hid hhl; have HQ3 := Lib.hid hq3; have H1Q := Lib.hid h1c
  clear hown8 hgrow8 hat8 hlt8 hg8 hm8 hb8 hA1 hA2 hstr hown10 hb10 hq1 hq2 hq3 hql hhl h1c hs10 HOWN7 HN7 HB7 HNEW
  go_wp2_with (at_builtin; refine wpList_append_lies _ (by rfl) _ _ _ (by rfl) (w8.heap.size + 1) 29 i0 _ 12 192 Tryd.underlying27 HI0.out HZ0.out HZ1.out HZ2.out rfl (by omega) (.slice (some ⟨w8.heap.size + 1, 0, none⟩) 1 1) 1 [.int .i64 1, .slice (some ⟨w8.heap.size, 0, none⟩) 1 1, .int .i64 0, .int .i64 0, .int .i64 0, .slice none 0 0, .slice none 0 0, .bool false, .int .i64 0, .slice none 0 0, .slice none 0 0, .slice none 0 0] (by rfl) HOWN10.out ⟨g1, o1, none⟩ cs.length c1 (hcells qs) (by rfl) HHQ.out HQ3.out H1Q.out (by omega) (by unfold maxLen; omega) (by omega) (by simp) (w8.heap.size + 2) (by simp) ?_)
  intro g12 cap12 w12 hown12 hgrow12 hat12 hlt12
  obtain ⟨hm12, hs12, hb12⟩ := HPP.out w12 g12 cap12 hown12 hgrow12 hat12
  have HM12 := Lib.hid hm12; have HS12 := Lib.hid hs12; have HB12 := Lib.hid hb12
  clear hown12 hgrow12 hat12 hlt12 hm12 hs12 hb12 HPP HOWN10 HHQ HQ3 H1Q
  have HC1 := Lib.hid (rule_any 15 (cs ++ [keepA, reqC]) _ _ m w12 (SAt.bd (fun _ _ hr => cmd_bd 15 hr) HS12.out) (fun c hc => by
    rcases List.mem_append.1 hc with hc | hc
    · exact HF.out c hc
    · rcases List.mem_cons.1 hc with rfl | hc
      · exact keepA_form
      · obtain rfl := List.mem_singleton.1 hc; exact req_form) (fun c hc => by
    rcases List.mem_append.1 hc with hc | hc
    · exact HG.out c hc
    · rcases List.mem_cons.1 hc with rfl | hc
      · exact keepA_good
      · obtain rfl := List.mem_singleton.1 hc; exact reqC_good) (fun c hc => by
    rcases List.mem_append.1 hc with hc | hc
    · exact HS.out c hc
    · rcases List.mem_cons.1 hc with rfl | hc
      · decide
      · obtain rfl := List.mem_singleton.1 hc; exact reqC_small) (fun b hb => hb.2) (HRW.out _ HB12.out) (by
    rw [List.flatMap_append, List.length_append]
    have h1 : ([keepA, reqC].flatMap wC).length ≤ 100 := by decide
    have := HK.out
    omega))
  obtain ⟨R, hR⟩ : ∃ R, R = ruleS (cs ++ [keepA, reqC]) := ⟨_, rfl⟩
  have h0 := H0.out
  rw [← hR] at HC1 h0
  clear hR
  go_wp2_with fail
  refine HC1.out.mono ?_
  rintro e w13 ⟨rfl, hb13⟩
  have HB13 := Lib.hid (bt HB12.out hb13)
  have HC2 := Lib.hid (rule_any 15 (oddC :: cs) _ _ m w13 (SAt.bd (fun _ _ hr => cmd_bd 15 hr) (HM12.out.down hb13)) (fun c hc => by
    rcases List.mem_cons.1 hc with rfl | hc
    · exact oddC_form
    · exact HF.out c hc) (fun c hc => by
    rcases List.mem_cons.1 hc with rfl | hc
    · exact oddC_good
    · exact HG.out c hc) (fun c hc => by
    rcases List.mem_cons.1 hc with rfl | hc
    · decide
    · exact HS.out c hc) (fun b hb => hb.2) (HRW.out _ HB13.out) (by
    rw [List.flatMap_cons, List.length_append]
    have h1 : (wC oddC).length ≤ 100 := by decide
    have := HK.out
    omega))
  clear hb13 HC1
  obtain ⟨r, hr⟩ : ∃ r, r = ruleS (oddC :: cs) := ⟨_, rfl⟩
  have hmo := HMO.out
  rw [← hr] at HC2 hmo
  clear hr
  go_wp2_with fail
  refine HC2.out.mono ?_
  rintro e w14 ⟨rfl, hb14⟩
  have HB14 := Lib.hid (bt HB13.out hb14)
  clear hb14 HC2
  rcases h0 with rfl | rfl <;> rcases hmo with rfl | rfl
  all_goals
    go_wp2_with fail
    go_ret
    exact ⟨rfl, HB14.out⟩
theorem ruleLate_walk (v : Value) (n : Nat) (l : List Stk) (mx : Int) (W : World) (h : SAt (cStk n) W (fun _ => True) v l) (hlen : l.length ≤ 140737488351232) (hT : Tabs W W.heap.size) (hE : ExtAt W ∧ 1 < W.heap.size) (hN : NamesAt W ∧ 0 < W.heap.size) (hmx : W.cell? ⟨6, 0, none⟩ = some (.int .i64 mx)) :
    Calls Tryd.prog 10 #[v] W fun e w' => e = .returned (.bool true) ∧ Below W.heap.size W w' := ruleLate_any l v n _ mx W h hlen ⟨hT, hE, hN, hmx⟩
end Go.Proofs.YtobdokabelilmaaDoor.Sc
