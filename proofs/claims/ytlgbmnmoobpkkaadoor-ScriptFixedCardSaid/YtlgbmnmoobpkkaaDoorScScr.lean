/-
  DERIVED. Script of postroomkeep: the walk.
-/
import Derived.Test.YtlgbmnmoobpkkaaDoorScCmd3
import Derived.Test.YtlgbmnmoobpkkaaDoorScLen
import Derived.Test.YtlgbmnmoobpkkaaDoorScShChk
import Derived.Test.YtlgbmnmoobpkkaaDoorScWrote
import Derived.IntWalk
namespace Go.Proofs.YtlgbmnmoobpkkaaDoor.Sc
open Go.RowKit
open Tk (Tok)

def reqV (N : Nat) : List Value := [.int .i64 1, .slice (some ⟨N, 0, none⟩) 4 4, .int .i64 0, .int .i64 0, .int .i64 0, .slice none 0 0, .slice none 0 0, .bool false, .int .i64 0, .slice none 0 0, .slice none 0 0, .slice none 0 0]
def ReqPost (w : World) (e : Ending) (w' : World) : Prop := ∃ N, e = .returned (.agg (reqV N).toArray) ∧ Has w' N (strs reqC.texts) ∧ w.heap.size ≤ N ∧ Below w.heap.size w w'
theorem req_end {N : Nat} {a : Act} {W w : World} (ht : a.tmps.getD 0 undef = .pointer (some ⟨w.heap.size, 0, none⟩)) (hd : a.defers = []) (h : Has W w.heap.size (reqV N)) (hN : Has W N (strs reqC.texts)) (hz : w.heap.size ≤ N) (hb : Below w.heap.size w W) :
    bodyPost Tryd.prog Tryd.f14 (ReqPost w) .ret a W := by
  unfold reqV at h
  obtain ⟨c0, c1, c2, c3, c4, c5, c6, c7, c8, c9, c10, c11⟩ := has_12 h
  refine bodyPost_ret (v := .agg (reqV N).toArray) ?_ hd ⟨N, rfl, hN, hz, hb⟩
  have ht' : a.tmps[0]?.getD undef = .pointer (some ⟨w.heap.size, 0, none⟩) := by simpa using ht
  simp [results, Tryd.results14, go_sem, ht', c0, c1, c2, c3, c4, c5, c6, c7, c8, c9, c10, c11, reqV]
set_option maxHeartbeats 4000000 in
set_option maxRecDepth 20000 in
theorem requires_any (w : World) : Calls Tryd.prog 14 #[] w (ReqPost w) := by
  have h1 := Has.alloc w (reqV (w.heap.size + 1)) 49
  have hal := ba (Below.refl (w.alloc (.cells (reqV (w.heap.size + 1)).toArray 49)).heap.size (w.alloc (.cells (reqV (w.heap.size + 1)).toArray 49))) (.cells (strs reqC.texts).toArray 9)
  have h2 := h1.down hal
  have hN := Has.alloc (w.alloc (.cells (reqV (w.heap.size + 1)).toArray 49)) (strs reqC.texts) 9
  rw [World.size_alloc] at hN
  have H2 := Lib.hid h2; have HN := Lib.hid hN
  have HB := Lib.hid (ba (ba (Below.refl w.heap.size w) (.cells (reqV (w.heap.size + 1)).toArray 49)) (.cells (strs reqC.texts).toArray 9))
  clear h1 hal h2 hN
  go_enter Tryd.func14, Tryd.ntmps14
  go_wp2_with fail
  exact req_end (N := w.heap.size + 1) rfl rfl H2.out HN.out (Nat.le_succ _) HB.out
theorem sat_strs {w : World} {F : Dom} {N : Nat} {l : List Str} (h : Has w N (strs l)) (hF : F N) : SAt cStr w F (.slice (some ⟨N, 0, none⟩) l.length l.length) l := by
  refine ⟨_, _, rfl, Nat.le_refl _, fun i y hi => ⟨N, 0, rfl, hF, h.2.2, strC y, rfl, fun j u hj => ?_⟩⟩
  have h0 : j = 0 := by have := (List.getElem?_eq_some_iff.1 hj).1; simp [strC] at this; omega
  subst h0
  obtain rfl : Value.string ⟨y.toArray⟩ = u := Option.some.inj hj
  have hl := (List.getElem?_eq_some_iff.1 hi).1
  have e : l.getD i [] = y := by rw [List.getD, hi]; rfl
  have hx : 0 + i * cStr.size + 0 = i := by show 0 + i * 1 + 0 = i; omega
  rw [hx, ← e]; exact h.1 i _ (strs_at l i hl)
theorem req_rep {w : World} {F : Dom} {N : Nat} (h : Has w N (strs reqC.texts)) (hF : F N) : (cCmd 1).rep w F reqC (reqV N) := rep_text (k := 1) (sat_strs h hF)
/-- a slice of commands, its cells in a row -/
theorem SAt.held {α : Type} {c : Cod α} {w : World} {F : Dom} {g off n cap : Nat} {xs : List α} (h : SAt c w F (.slice (some ⟨g, off, none⟩) n cap) xs) : ∃ ps : Held α, ps.map Prod.fst = xs ∧ (∀ p ∈ ps, c.rep w F p.1 p.2) ∧ ∀ j u, (hcells ps)[j]? = some u → w.cell? (Addr.add ⟨g, off, none⟩ j) = some u := by
  obtain ⟨G, cap', hv, hc, hf⟩ := h
  have key : ∀ k, k ≤ xs.length → ∃ ps : Held α, ps.map Prod.fst = xs.take k ∧ (∀ p ∈ ps, c.rep w F p.1 p.2) ∧ ∀ j u, (hcells ps)[j]? = some u → w.cell? (Addr.add ⟨g, off, none⟩ j) = some u := by
    intro k
    induction k with
    | zero => exact fun _ => ⟨[], rfl, (fun p hp => by cases hp), fun j u hj => by simp [hcells] at hj⟩
    | succ k ih =>
      intro hk
      obtain ⟨ps, h1, h2, h3⟩ := ih (by omega)
      obtain ⟨g', off', hG, -, -, vs, h4, h5⟩ := hf k xs[k] (List.getElem?_eq_getElem (by omega))
      obtain ⟨rfl, rfl⟩ : g = g' ∧ off = off' := by cases hv; cases hG; exact ⟨rfl, rfl⟩
      have hpl : ps.length = k := by have := congrArg List.length h1; rw [List.length_map, List.length_take] at this; omega
      have hfit : Fits' c.size ps := fun p hp => c.len (h2 p hp)
      refine ⟨ps ++ [(xs[k], vs)], by rw [List.map_append, h1, List.take_succ_eq_append_getElem (by omega)]; rfl, fun p hp => ?_, fun j u hj => ?_⟩
      · rcases List.mem_append.1 hp with hp | hp
        · exact h2 p hp
        · obtain rfl := List.mem_singleton.1 hp; exact h4
      · rw [hcells_snoc] at hj
        rcases Nat.lt_or_ge j (hcells ps).length with hl | hl
        · rw [List.getElem?_append_left hl] at hj; exact h3 j u hj
        · rw [List.getElem?_append_right hl] at hj
          have := h5 _ u hj
          rw [Addr.add_lit]
          rw [hcells_length hfit, hpl] at this hl
          rwa [show off + k * c.size + (j - k * c.size) = off + j by omega] at this
  obtain ⟨ps, h1, h2⟩ := key xs.length (Nat.le_refl _)
  rw [List.take_length] at h1
  exact ⟨ps, h1, h2⟩
theorem cmd_cells {K : Nat} {w : World} {F : Dom} : ∀ {ps : Held Cmd}, (∀ p ∈ ps, (cCmd K).rep w F p.1 p.2) → ∀ u ∈ hcells ps, u.oneCell' = true := by
  intro ps h u hu
  unfold hcells at hu
  obtain ⟨p, hp, hup⟩ := List.mem_flatMap.1 hu
  obtain ⟨k, G0, n0, c0, k1, m, q, G1, n1, c1, G2, n2, c2, o, l, G3, n3, c3, G4, n4, c4, G5, n5, c5, e⟩ := cmd_form12 (h p hp)
  rw [e] at hup
  simp only [List.mem_cons, List.not_mem_nil, or_false] at hup
  rcases hup with rfl | rfl | rfl | rfl | rfl | rfl | rfl | rfl | rfl | rfl | rfl | rfl <;> rfl
set_option maxHeartbeats 4000000 in
set_option maxRecDepth 20000 in
theorem commands_nil (G : Option Addr) (c : Nat) (d : Int) (w : World) : Calls Tryd.prog 15 #[.slice G 0 c, .int .i64 d] w fun e w' => e = .returned (.slice none 0 0) ∧ w = w' := by
  go_enter Tryd.func15, Tryd.ntmps15
  go_wp2_with fail
  go_loop [5, 6] (fun v i => v = .slice none 0 0 ∧ i = .int .i64 0) (fun _ _ => 0)
  case atStart => exact ⟨rfl, rfl⟩
  case round =>
    obtain ⟨rfl, rfl⟩ := hrel
    go_wp2_with fail
    go_ret
    exact ⟨rfl, rfl⟩
def ScrPost (cs : List Cmd) (K : Nat) (w : World) (e : Ending) (w' : World) : Prop := ∃ G c, e = .returned (.slice G cs.length c) ∧ SAt (cCmd K) w' (fun b => w.heap.size ≤ b) (.slice G cs.length c) cs ∧ Below w.heap.size w w'
def sliceLen : Value → Nat
  | .slice _ n _ => n
  | _ => 0
/-- at the head of each round -/
def ScrRel (l : List Stk) (K : Nat) (w : World) (v : Value) (wr : World) : Prop := ∃ (k : Nat) (G : Option Addr) (c : Nat), 1 ≤ k ∧ k ≤ 5 ∧ k ≤ (allS l).length ∧ v = .slice G k c ∧ SAt (cCmd K) wr (fun b => w.heap.size ≤ b) (.slice G k c) ((allS l).take k) ∧ scriptS l = (allS l).take (trimK (allS l) k) ∧ Below w.heap.size w wr

set_option maxHeartbeats 8000000 in
set_option maxRecDepth 20000 in
theorem script_any (l : List Stk) (v : Value) (n : Nat) (F : Dom) (w : World) (hv : SAt (cStk n) w F v l) (hlen : l.length ≤ 140737488351232) (htab : Tabs w w.heap.size) :
    Calls Tryd.prog 6 #[v] w (ScrPost (scriptS l) 15 w) := by
  obtain ⟨G, c, rfl, hlc⟩ := hv.form
  have HCM : Hid (∀ w', Below w.heap.size w w' → Calls Tryd.prog 15 #[.slice G l.length c, .int .i64 0] w' (CmdsPost (cmdsS 2 l) 15 w')) := fun w' hb => commands_any 2 15 n l _ 0 F w' (cmd_all 2 (by omega)) (hv.down hb) hlen
  have HTB : Hid (∀ w', Below w.heap.size w w' → Tabs w' w'.heap.size) := fun w' hb => (htab.down (Nat.le_refl _) hb).up hb.size
  have hml := (allS_len l).2
  have hal1 : (allS l).length = (cmdsS 2 l).length + 1 := rfl
  have HREQ := Lib.hid (requires_any w)
  clear hv htab
  go_enter Tryd.func6, Tryd.ntmps6
  go_wp2_with fail
  refine HREQ.out.mono ?_
  intro e w1 h1
  obtain ⟨N, rfl, hN, hzN, hb1⟩ := h1
  unfold reqV
  have hal := ba (Below.refl w1.heap.size w1) (.cells (reqV N).toArray 49)
  have hown := World.ownsRow_lit (base := w1.heap.size) (e := 49) (size := 12) w1 (reqV N).toArray 1 (Nat.le_refl _) (by decide) rfl
  have HOWN := Lib.hid hown; have HB2 := Lib.hid (bt hb1 hal); have HN2 := Lib.hid (hN.down hal)
  have hz1 := hb1.size
  have hNl : N < w1.heap.size := hN.2.2
  unfold reqV at HOWN HB2 HN2
  clear hown hal hN hb1 HREQ
  have HALLT := Lib.hid (allS_form l)
  have HF := Lib.hid (allS_form l); have HSH := Lib.hid (allS_short l)
  by_cases h0 : l.length = 0
  · have hl1 : (allS l).length = 1 := by rw [hal1]; unfold cmdsS; rw [List.length_map, List.length_take]; omega
    have HC0 := Lib.hid (commands_nil G c 0 (w1.alloc (.cells #[.int .i64 1, .slice (some ⟨N, 0, none⟩) 4 4, .int .i64 0, .int .i64 0, .int .i64 0, .slice none 0 0, .slice none 0 0, .bool false, .int .i64 0, .slice none 0 0, .slice none 0 0, .slice none 0 0] 49)))
    have hstart : ScrRel l 15 w (.slice (some ⟨w1.heap.size, 0, none⟩) 1 1) (w1.alloc (.cells #[.int .i64 1, .slice (some ⟨N, 0, none⟩) 4 4, .int .i64 0, .int .i64 0, .int .i64 0, .slice none 0 0, .slice none 0 0, .bool false, .int .i64 0, .slice none 0 0, .slice none 0 0, .slice none 0 0] 49)) := by
      refine ⟨1, _, 1, by omega, by omega, by omega, rfl, ?_, by unfold scriptS; rw [hl1], HB2.out⟩
      exact sat_lone ((cCmd 15).mono (cmd_le (by omega) (req_rep (F := fun b => w.heap.size ≤ b) HN2.out hzN)) (fun _ h => h)) (Has.alloc w1 _ _) hz1
    have HST := Lib.hid hstart
    clear hstart hlc HCM hl1
    go_wp2_with fail
    refine HC0.out.mono ?_
    rintro e w3 ⟨rfl, rfl⟩
    go_wp2_with fail
    obtain ⟨W3, hW3⟩ : ∃ W3, W3 = w1.alloc (.cells #[.int .i64 1, .slice (some ⟨N, 0, none⟩) 4 4, .int .i64 0, .int .i64 0, .int .i64 0, .slice none 0 0, .slice none 0 0, .bool false, .int .i64 0, .slice none 0 0, .slice none 0 0, .slice none 0 0] 49) := ⟨_, rfl⟩
    rw [← hW3] at HST ⊢
    clear hW3 HC0 HOWN HN2 HB2
    go_loopw [3] (ScrRel l 15 w) (fun v _ => sliceLen v)
    case atStart => exact HST.out
    case round =>
      obtain ⟨k, Gk, ck, hk1, hk5, hkl, rfl, hsk, hsc, hb⟩ := hrel
      have HSK := Lib.hid hsk; have HSC := Lib.hid hsc; have HBK := Lib.hid hb
      have hkc : k ≤ ck := by obtain ⟨_, c', e, h, -⟩ := hsk; injection e with _ _ e3; rw [List.length_take] at h; omega
      have htk : ((allS l).take k).length = k := by rw [List.length_take]; omega
      have HTK := Lib.hid htk
      clear hsk hsc
      by_cases h1 : k = 1
      · subst h1
        have hend : ScrPost (scriptS l) 15 w (.returned (.slice Gk 1 ck)) wr := by
          have e : scriptS l = (allS l).take 1 := HSC.out
          have e2 : ((allS l).take 1).length = 1 := htk
          rw [e]
          unfold ScrPost
          rw [e2]
          exact ⟨_, _, rfl, HSK.out, hb⟩
        have HE := Lib.hid hend
        clear hend hb htk
        go_wp2_with fail
        go_ret
        exact HE.out
      · have hsb := SAt.bd (fun _ _ hr => cmd_bd 15 hr) HSK.out
        have HCK := Lib.hid (check_any 15 ((allS l).take k) (.slice Gk k ck) _ wr hsb (fun c hc => HF.out c (List.mem_of_mem_take hc)) (fun b hb => hb.2) (HTB.out wr hb) (by have := HSH.out k; omega))
        obtain ⟨r, hr⟩ : ∃ r, r = checkS ((allS l).take k) := ⟨_, rfl⟩
        rw [← hr] at HCK
        have HR := Lib.hid hr
        have hk2 : (1 : Int) < k := by omega
        clear hsb hr hb htk
        go_wp2_with fail
        refine HCK.out.mono ?_
        rintro e w6 ⟨rfl, hb6⟩
        have HB6 := Lib.hid (bt HBK.out hb6); have HS6 := Lib.hid (HSK.out.down hb6)
        clear hb6 HCK
        by_cases hr0 : r = 0
        · have hend : ScrPost (scriptS l) 15 w (.returned (.slice Gk k ck)) w6 := by
            obtain ⟨k', rfl⟩ : ∃ k', k = k' + 2 := ⟨k - 2, by omega⟩
            have e : scriptS l = (allS l).take (k' + 2) := by rw [HSC.out, trimK, if_pos (by rw [← HR.out]; exact hr0)]
            unfold ScrPost
            rw [e, HTK.out]
            exact ⟨_, _, rfl, HS6.out, HB6.out⟩
          have HE := Lib.hid hend
          subst hr0
          clear hend
          go_wp2_with fail
          go_ret
          exact HE.out
        · have hr1 : (r != 0) = true := by rw [bne, beq_eq_false_iff_ne.2 hr0]; rfl
          have hn : Hid (scriptS l = (allS l).take (trimK (allS l) (k - 1))) := by
            unfold Hid
            obtain ⟨k', rfl⟩ : ∃ k', k = k' + 2 := ⟨k - 2, by omega⟩
            rw [HSC.out, trimK, if_neg (by rw [← HR.out]; exact hr0)]; rfl
          have hsn : Hid (SAt (cCmd 15) w6 (fun b => w.heap.size ≤ b) (.slice Gk (k - 1) ck) ((allS l).take (k - 1))) := by
            unfold Hid
            have := HS6.out.take (k - 1) ck (by rw [HTK.out]; omega) (by omega)
            rwa [List.take_take, Nat.min_eq_left (by omega)] at this
          have j1 : (0 : Int) ≤ (k : Int) - 1 := by omega
          have j2 : ((k : Int) - 1).toNat = k - 1 := by omega
          have j3 : (k : Int) - 1 ≤ ck := by omega
          have j4 : IntKind.i64.wrap ((k : Int) - 1) = (k : Int) - 1 := IntWalk.i64_in _ (by omega)
          clear hr0
          go_wp2_with fail
          go_roundw
          case rel => exact ⟨k - 1, Gk, ck, by omega, by omega, by omega, rfl, hsn.out, hn.out, HB6.out⟩
          case measure => show k - 1 < k; omega
  · go_wp2_with fail
    refine (HCM.out _ HB2.out).mono ?_
    intro e w3 h3
    obtain ⟨v3, rfl, hs3, hb3⟩ := h3
    obtain ⟨G3, c3, rfl, hc3⟩ := hs3.form
    have hz2 : w1.heap.size < w3.heap.size := by have := hb3.size; rw [World.size_alloc] at this; omega
    have HOWN3 := Lib.hid (row_down HOWN.out hb3); have HN3 := Lib.hid (HN2.out.down hb3); have HB3 := Lib.hid (bt HB2.out hb3)
    have hs3' := hs3.mono (F' := fun b => w1.heap.size < b) (fun b hb => by rw [World.size_alloc] at hb; omega)
    obtain ⟨cs, hcs⟩ : ∃ cs, cs = cmdsS 2 l := ⟨_, rfl⟩
    have hall : allS l = reqC :: cs := by rw [hcs]; rfl
    have hcp : 0 < cs.length := by rw [hcs]; unfold cmdsS; rw [List.length_map, List.length_take]; omega
    rw [← hcs] at hs3' hal1 ⊢
    have hcl : cs.length ≤ 4 := by omega
    have HALL := Lib.hid hall; have HS3 := Lib.hid hs3'
    obtain ⟨g3, o3, rfl⟩ : ∃ g off, G3 = some ⟨g, off, none⟩ := by
      obtain ⟨g, off, _, hG, -⟩ := hs3'.get 0 hcp
      exact ⟨g, off, hG⟩
    obtain ⟨ps, hp1, hp2, hp3⟩ := SAt.held hs3'
    have hpl : ps.length = cs.length := by have := congrArg List.length hp1; rwa [List.length_map] at this
    have hhl : (hcells ps).length = cs.length * 12 := by rw [hcells_length (k := 12) (fun p hp => (cCmd 15).len (hp2 p hp)), hpl]
    have h1c := cmd_cells hp2
    obtain ⟨i0, hi, hzi0, hzi1, hzi2⟩ := info_three info_cmd
    have HI0 := Lib.hid hi; have HZ0 := Lib.hid hzi0; have HZ1 := Lib.hid hzi1; have HZ2 := Lib.hid hzi2
    have HP1 := Lib.hid hp1; have HP2 := Lib.hid hp2; have HP3 := Lib.hid hp3; have HHL := Lib.hid hhl; have H1C := Lib.hid h1c
    clear hs3 hs3' hcs hb3 HOWN HN2 HB2 HCM hp1 hp2 hp3 hhl h1c hi hzi0 hzi1 hzi2 hpl hall
    go_wp2_with (at_builtin; refine wpList_append_lies _ (by rfl) _ _ _ (by rfl) w1.heap.size 49 i0 _ 12 192 Tryd.underlying23 HI0.out HZ0.out HZ1.out HZ2.out rfl (by omega) (.slice (some ⟨w1.heap.size, 0, none⟩) 1 1) 1 [.int .i64 1, .slice (some ⟨N, 0, none⟩) 4 4, .int .i64 0, .int .i64 0, .int .i64 0, .slice none 0 0, .slice none 0 0, .bool false, .int .i64 0, .slice none 0 0, .slice none 0 0, .slice none 0 0] (by rfl) HOWN3.out ⟨g3, o3, none⟩ cs.length c3 (hcells ps) (by rfl) HHL.out HP3.out H1C.out (by omega) (by unfold maxLen; omega) (by omega) (by omega) w3.heap.size rfl ?_)
    intro g5 cap5 w5 hown5 hgrow5 hat5 hlt5
    have hg5 : w1.heap.size ≤ g5 := by
      rcases hat5 with h | h
      · have h' : w1.heap.size = g5 := Option.some.inj h
        omega
      · omega
    have hb5 : Below w.heap.size w w5 := below_far HB3.out hgrow5 (fun b e => by have e' : w1.heap.size = b := Option.some.inj e; omega) HB3.out.size
    have hstart : ScrRel l 15 w (.slice (some ⟨g5, 0, none⟩) (1 + cs.length) cap5) w5 := by
      have hl5 : (allS l).length = 1 + cs.length := by omega
      refine ⟨1 + cs.length, _, _, by omega, by omega, by omega, rfl, ?_, by unfold scriptS; rw [hl5], hb5⟩
      have hT : (allS l).take (1 + cs.length) = ((reqC, [.int .i64 1, .slice (some ⟨N, 0, none⟩) 4 4, .int .i64 0, .int .i64 0, .int .i64 0, .slice none 0 0, .slice none 0 0, .bool false, .int .i64 0, .slice none 0 0, .slice none 0 0, .slice none 0 0]) :: ps).map Prod.fst := by
        rw [← hl5, List.take_length, HALL.out, List.map_cons, HP1.out]
      rw [hT]
      refine ORow.sat (base := w1.heap.size) (S := fun b => w.heap.size ≤ b ∧ b ≠ w1.heap.size ∧ b < w3.heap.size) (e := 49) ⟨?_, fun p hp => ?_, fun b hb hh => ?_⟩ (fun b hb => by show w.heap.size ≤ b; omega) (fun b hb => hb.1)
      · have hlen : ((reqC, [.int .i64 1, .slice (some ⟨N, 0, none⟩) 4 4, .int .i64 0, .int .i64 0, .int .i64 0, .slice none 0 0, .slice none 0 0, .bool false, .int .i64 0, .slice none 0 0, .slice none 0 0, .slice none 0 0]) :: ps).length = 1 + cs.length := by
          have := congrArg List.length HP1.out
          rw [List.length_map] at this
          rw [List.length_cons]; omega
        rw [hlen]; exact hown5
      · have hgr : Same (fun b => w.heap.size ≤ b ∧ b ≠ w1.heap.size ∧ b < w3.heap.size) w3 w5 := Same.of_grown hgrow5 (fun b e hF => by have e' : w1.heap.size = b := Option.some.inj e; exact hF.2.1 e'.symm)
        rcases List.mem_cons.1 hp with rfl | hp
        · exact (cCmd 15).stable (cmd_le (by omega) (req_rep (F := fun b => w.heap.size ≤ b ∧ b ≠ w1.heap.size ∧ b < w3.heap.size) HN3.out ⟨hzN, by omega, by have := HN3.out.2.2; exact this⟩)) hgr hgrow5.size
        · exact (cCmd 15).stable ((cCmd 15).mono (cmd_bd 15 (HP2.out p hp)) (fun b hb => ⟨by have := hb.1; omega, by have := hb.1; omega, hb.2⟩)) hgr hgrow5.size
      · have e' : g5 = b := Option.some.inj hb
        rcases hat5 with h | h
        · have h' : w1.heap.size = g5 := Option.some.inj h
          exact hh.2.1 (by omega)
        · have := hh.2.2; omega
    have HST := Lib.hid hstart
    clear hstart hown5 hgrow5 hat5 hlt5 hb5
    go_wp2_with fail
    go_loopw [3] (ScrRel l 15 w) (fun v _ => sliceLen v)
    case atStart => exact HST.out
    case round =>
      obtain ⟨k, Gk, ck, hk1, hk5, hkl, rfl, hsk, hsc, hb⟩ := hrel
      have HSK := Lib.hid hsk; have HSC := Lib.hid hsc; have HBK := Lib.hid hb
      have hkc : k ≤ ck := by obtain ⟨_, c', e, h, -⟩ := hsk; injection e with _ _ e3; rw [List.length_take] at h; omega
      have htk : ((allS l).take k).length = k := by rw [List.length_take]; omega
      have HTK := Lib.hid htk
      clear hsk hsc
      by_cases h1 : k = 1
      · subst h1
        have hend : ScrPost (scriptS l) 15 w (.returned (.slice Gk 1 ck)) wr := by
          have e : scriptS l = (allS l).take 1 := HSC.out
          have e2 : ((allS l).take 1).length = 1 := htk
          rw [e]
          unfold ScrPost
          rw [e2]
          exact ⟨_, _, rfl, HSK.out, hb⟩
        have HE := Lib.hid hend
        clear hend hb htk
        go_wp2_with fail
        go_ret
        exact HE.out
      · have hsb := SAt.bd (fun _ _ hr => cmd_bd 15 hr) HSK.out
        have HCK := Lib.hid (check_any 15 ((allS l).take k) (.slice Gk k ck) _ wr hsb (fun c hc => HF.out c (List.mem_of_mem_take hc)) (fun b hb => hb.2) (HTB.out wr hb) (by have := HSH.out k; omega))
        obtain ⟨r, hr⟩ : ∃ r, r = checkS ((allS l).take k) := ⟨_, rfl⟩
        rw [← hr] at HCK
        have HR := Lib.hid hr
        have hk2 : (1 : Int) < k := by omega
        clear hsb hr hb htk
        go_wp2_with fail
        refine HCK.out.mono ?_
        rintro e w6 ⟨rfl, hb6⟩
        have HB6 := Lib.hid (bt HBK.out hb6); have HS6 := Lib.hid (HSK.out.down hb6)
        clear hb6 HCK
        by_cases hr0 : r = 0
        · have hend : ScrPost (scriptS l) 15 w (.returned (.slice Gk k ck)) w6 := by
            obtain ⟨k', rfl⟩ : ∃ k', k = k' + 2 := ⟨k - 2, by omega⟩
            have e : scriptS l = (allS l).take (k' + 2) := by rw [HSC.out, trimK, if_pos (by rw [← HR.out]; exact hr0)]
            unfold ScrPost
            rw [e, HTK.out]
            exact ⟨_, _, rfl, HS6.out, HB6.out⟩
          have HE := Lib.hid hend
          subst hr0
          clear hend
          go_wp2_with fail
          go_ret
          exact HE.out
        · have hr1 : (r != 0) = true := by rw [bne, beq_eq_false_iff_ne.2 hr0]; rfl
          have hn : Hid (scriptS l = (allS l).take (trimK (allS l) (k - 1))) := by
            unfold Hid
            obtain ⟨k', rfl⟩ : ∃ k', k = k' + 2 := ⟨k - 2, by omega⟩
            rw [HSC.out, trimK, if_neg (by rw [← HR.out]; exact hr0)]; rfl
          have hsn : Hid (SAt (cCmd 15) w6 (fun b => w.heap.size ≤ b) (.slice Gk (k - 1) ck) ((allS l).take (k - 1))) := by
            unfold Hid
            have := HS6.out.take (k - 1) ck (by rw [HTK.out]; omega) (by omega)
            rwa [List.take_take, Nat.min_eq_left (by omega)] at this
          have j1 : (0 : Int) ≤ (k : Int) - 1 := by omega
          have j2 : ((k : Int) - 1).toNat = k - 1 := by omega
          have j3 : (k : Int) - 1 ≤ ck := by omega
          have j4 : IntKind.i64.wrap ((k : Int) - 1) = (k : Int) - 1 := IntWalk.i64_in _ (by omega)
          clear hr0
          go_wp2_with fail
          go_roundw
          case rel => exact ⟨k - 1, Gk, ck, by omega, by omega, by omega, rfl, hsn.out, hn.out, HB6.out⟩
          case measure => show k - 1 < k; omega
end Go.Proofs.YtlgbmnmoobpkkaaDoor.Sc
