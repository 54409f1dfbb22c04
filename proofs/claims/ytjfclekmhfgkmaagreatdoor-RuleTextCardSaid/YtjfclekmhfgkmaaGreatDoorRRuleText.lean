/- On the way. -/
import Derived.Test.YtjfclekmhfgkmaaGreatDoorRScShw
import Derived.Test.YtjfclekmhfgkmaaGreatDoorRScSm
import Derived.Test.YtjfclekmhfgkmaaGreatDoorRRuAll
import Derived.Test.YtjfclekmhfgkmaaGreatDoorRTkJ
import Derived.Test.YtjfclekmhfgkmaaGreatDoorRTkLaid
import Derived.Test.YtjfclekmhfgkmaaGreatDoorRScTk9
set_option linter.unusedVariables false
set_option linter.unusedSimpArgs false
set_option maxHeartbeats 8000000
set_option maxRecDepth 20000
namespace Go.Proofs.YtjfclekmhfgkmaaGreatDoor.Sc
open Go.RowKit
open Tk (Tok)
theorem brace_whole {cs : List Cmd} (hF : ∀ c ∈ cs, FormC c) (hd : cs.all (fitC 0) = true) : (wholeS (cs.flatMap wC ++ [M 125])).2.2 ≠ 0 := by
 by_cases h : (cs.flatMap wC ++ [M 125]).length ≤ 400
 ·rw [((ok_all hF).app (OkL.cons ok125 OkL.nil)).whole h, parse_brace hF hd]; decide
 ·unfold wholeS; rw [if_pos (by omega)]; show (5 : Int) ≠ 0; decide
def readE (r : List Tok × Nat × Int) : Int := if r.2.2 ≠ 0 then r.2.2 else if (wholeS r.1).2.2 ≠ 0 then (wholeS r.1).2.2 else ruleS (wholeS r.1).1
def ReadP (r : List Tok × Nat × Int) (w : World) (e : Ending) (w' : World) : Prop :=
 (∃ v, e = .returned (.tuple #[v, .int .i64 (readE r)]) ∧ (readE r = 0 → SAt (cCmd (r.1.length + 8)) w' (fun b => w.heap.size ≤ b) v (wholeS r.1).1)) ∧ Below w.heap.size w w'
theorem ReadP.bad {r : List Tok × Nat × Int} {w w' : World} {c : Int} (h : readE r = c) (h0 : c ≠ 0) (hb : Below w.heap.size w w') : ReadP r w (.returned (.tuple #[.slice none 0 0, .int .i64 c])) w' :=
 ⟨⟨_, by rw [h], fun e => absurd (h.symm.trans e) h0⟩, hb⟩
theorem read_any (s : ByteArray) (m : Int) (te : TypeId) (pe : Value) (w : World) (hs : s.size ≤ 100000) (hW : RW w m) (hev : w.cell? ⟨13, 0, none⟩ = some (.iface te pe))
    (hT : ∀ t ∈ (Tk.cutL s.data.toList).1, t.kind = 1 ∨ t.kind = 2 → t.text.length ≤ 4611686018427387904)
    (hG : (Tk.cutL s.data.toList).2.2 = 0 → (wholeS (Tk.cutL s.data.toList).1).2.2 = 0 → (∀ c ∈ (wholeS (Tk.cutL s.data.toList).1).1, FormC c ∧ GoodC c ∧ ∀ s ∈ c.texts, s.length ≤ 1000000) ∧ ((wholeS (Tk.cutL s.data.toList).1).1.flatMap wC).length ≤ 1000000) :
    Calls Tryz.prog 7 #[.string s] w (ReadP (Tk.cutL s.data.toList) w) := by
 have HRW : Hid (∀ w', Below w.heap.size w w' → RW w' m) := fun w' hb => hW.down hb
 have HCU := Lib.hid (Tk.cut_any s m te pe w hs hW.max hev)
 obtain ⟨R, hR⟩ : ∃ R, R = Tk.cutL s.data.toList := ⟨_, rfl⟩
 rw [← hR] at HCU hT hG ⊢
 obtain ⟨ts, p, c⟩ := R
 have HPA : Hid (∀ (v : Value) (F : Dom) (w' : World), SAt cTok w' F v ts → (∀ x, F x → x < w'.heap.size) → Below w.heap.size w w' → Calls Tryz.prog 21 #[v] w' (ParseP ts w')) := fun v F w' h1 h2 hb =>
  parse_any ts v F w' h1 h2 (HRW.out w' hb).tab hT
 have HG := Lib.hid hG
 have HX : Hid (readE (ts, p, c) = if c ≠ 0 then c else if (wholeS ts).2.2 ≠ 0 then (wholeS ts).2.2 else ruleS (wholeS ts).1) := rfl
 clear hs hW hev hT hG hR
 go_enter Tryz.func7, Tryz.ntmps7
 go_wp2_with fail
 refine HCU.out.mono ?_
 intro e w1 hq
 unfold Tk.CutPost at hq
 obtain ⟨⟨v1, rfl, hs1⟩, hb1⟩ := hq
 have HB1 := Lib.hid hb1
 have HP := Lib.hid (HPA.out v1 _ w1 ((SAt.bd (fun _ _ hr => hr) hs1).mono (F' := fun b => b < w1.heap.size) (fun _ h => h.2)) (fun _ h => h) hb1)
 clear hs1 hb1 HCU HPA
 by_cases hc : c = 0
 ·subst hc
  have hx0 : readE (ts, p, 0) = if (wholeS ts).2.2 ≠ 0 then (wholeS ts).2.2 else ruleS (wholeS ts).1 := by rw [HX.out, if_neg (by simp)]
  have HX0 := Lib.hid hx0
  clear hx0 HX
  go_wp2_with fail
  refine HP.out.mono ?_
  intro e w2 hq
  unfold ParseP at hq
  obtain ⟨v2, rfl, hs2, hb2⟩ := hq
  have HS2 := Lib.hid hs2; have HB2 := Lib.hid (bt HB1.out hb2); have HB12 := Lib.hid hb2
  have HGG := Lib.hid (HG.out (by first | rfl | trivial))
  clear hs2 hb2 HP HG
  obtain ⟨L, hL⟩ : ∃ L, L = wholeS ts := ⟨_, rfl⟩
  have HL := Lib.hid hL
  rw [← hL] at HS2 HX0 HGG ⊢
  clear hL
  obtain ⟨cs, q, c2⟩ := L
  by_cases hc2 : c2 = 0
  ·subst hc2
   have hgg := HGG.out rfl
   have hx1 : readE (ts, p, 0) = ruleS cs := by rw [HX0.out, if_neg (by simp)]
   have HX1 := Lib.hid hx1
   have hs2 := (SAt.bd (fun _ _ hr => cmd_bd _ hr) HS2.out).mono (F' := fun b => b < w2.heap.size) (fun _ h => h.2)
   have HC := Lib.hid (rule_any _ cs _ _ m w2 hs2 (fun d hd => (hgg.1 d hd).1) (fun d hd => (hgg.1 d hd).2.1) (fun d hd => (hgg.1 d hd).2.2) (fun _ h => h) (HRW.out _ HB2.out) hgg.2)
   clear hgg hx1 hs2 HX0 HGG
   go_wp2_with fail
   refine HC.out.mono ?_
   rintro e w3 ⟨rfl, hb3⟩
   have HB3 := Lib.hid (bt HB2.out hb3)
   have hs3 := HS2.out.stable (Same.of_below hb3) hb3.size
   have HS3 := Lib.hid (hs3.mono (F' := fun b => w.heap.size ≤ b) (fun b h => Nat.le_trans HB1.out.size h))
   clear hb3 hs3 HC HS2
   obtain ⟨r, hr⟩ : ∃ r, r = ruleS cs := ⟨_, rfl⟩
   rw [← hr] at HX1 ⊢
   clear hr
   by_cases hr0 : r = 0
   ·subst hr0
    go_wp2_with fail
    go_ret2
    refine ⟨⟨v2, by rw [HX1.out]; rfl, fun _ => ?_⟩, HB3.out⟩
    show SAt _ _ _ v2 (wholeS ts).1
    rw [← HL.out]; exact HS3.out
   ·have q1 : decide (r = 0) = false := decide_eq_false hr0
    have q2 : (r == 0) = false := by simpa using hr0
    have q3 : (r != 0) = true := by simpa using hr0
    go_wp2_with fail
    go_ret2
    exact ReadP.bad HX1.out hr0 HB3.out
  ·have q1 : decide (c2 = 0) = false := decide_eq_false hc2
   have q2 : (c2 == 0) = false := by simpa using hc2
   have q3 : (c2 != 0) = true := by simpa using hc2
   have hx1 : readE (ts, p, 0) = c2 := by rw [HX0.out, if_pos hc2]
   have HX1 := Lib.hid hx1
   clear hx1 HX0
   go_wp2_with fail
   go_ret2
   exact ReadP.bad HX1.out hc2 HB2.out
 ·have q1 : decide (c = 0) = false := decide_eq_false hc
  have q2 : (c == 0) = false := by simpa using hc
  have q3 : (c != 0) = true := by simpa using hc
  have hx1 : readE (ts, p, c) = c := by rw [HX.out, if_pos hc]
  have HX1 := Lib.hid hx1
  clear hx1 HX
  go_wp2_with fail
  go_ret2
  exact ReadP.bad HX1.out hc HB1.out
theorem ext_lo {s : Str} {n : Nat} (h : s.length ≤ n) (c : UInt8) : (s ++ [c]).length ≤ n + 1 := by rw [List.length_append]; show _ + 1 ≤ _; omega
theorem ruleText_any (l : List Stk) (v : Value) (n : Nat) (F : Dom) (m : Int) (w : World) (hv : SAt (cStk n) w F v l) (hlen : l.length ≤ 140737488351232) (hW : RW w m)
    (htab : Lib.TabIs Tryz.prog w "internal/strconv.uint64pow10" .u64 Lib.pow10Tab) (hev : ∃ te pe, w.cell? ⟨13, 0, none⟩ = some (.iface te pe)) :
    Calls Tryz.prog 3 #[v] w fun e w' => e = .returned (.bool true) ∧ Below w.heap.size w w' := by
 obtain ⟨te, pe, hev⟩ := hev
 have HRW : Hid (∀ w', Below w.heap.size w w' → RW w' m) := fun w' hb => hW.down hb
 have HSC := Lib.hid (script_any l v n F w hv hlen hW.tab)
 obtain ⟨G0, c0, rfl, -⟩ := hv.form
 have hF := script_form l; have hG := script_good l; have hS := script_small l; have hk := script_toks l
 have h0 := script_ok l; have hd := script_fit l; have hru := rule_allowed l; have hsh := script_short l
 obtain ⟨cs, hcs⟩ : ∃ cs, cs = scriptS l := ⟨_, rfl⟩
 rw [← hcs] at HSC hF hG hS hk h0 hd hru hsh
 obtain ⟨ts, hts⟩ : ∃ ts, ts = cs.flatMap wC := ⟨_, rfl⟩
 have hWB := whole_back hF hd hk
 have hBR := brace_whole hF hd
 have hOK := ok_all hF
 have hgood : ∀ c ∈ cs, FormC c ∧ GoodC c ∧ ∀ s ∈ c.texts, s.length ≤ 1000000 := fun c hc => ⟨hF c hc, hG c hc, hS c hc⟩
 have HSH : Hid (∀ (u : Value) (w' : World), SAt (cCmd 15) w' (fun b => b < w'.heap.size) u cs → Below w.heap.size w w' → Calls Tryz.prog 5 #[u] w' fun e w'' => (∃ G c, e = .returned (.tuple #[.slice G ts.length c, .int .i64 0]) ∧ SAt cTok w'' (fun b => b < w''.heap.size) (.slice G ts.length c) ts) ∧ Below w'.heap.size w' w'') := fun u w' hu hb => by
  rw [hts]; exact show_fine 15 cs u _ w' hu hF (fun b h => h) (HRW.out _ hb).tab (by omega) h0
 have HSM : Hid (∀ (K : Nat) (va vb : Value) (w' : World), SAt (cCmd 15) w' (fun _ => True) va cs → SAt (cCmd K) w' (fun _ => True) vb cs → Calls Tryz.prog 8 #[va, vb] w' fun e w'' => e = .returned (.bool true) ∧ Below w'.heap.size w' w'') := fun K va vb w' h1 h2 => sameC_every 15 cs K va vb _ _ w' h1 h2 hF (by omega)
 have hlw : (cs.flatMap wC).length ≤ 1000000 := by omega
 rw [← hts] at hk hWB hOK hBR hsh
 have hchk : ∀ t ∈ ts, Tk.checkT t = 0 := fun t ht => (hOK t ht).1
 have hJT := Tk.join_text hchk hk
 have hTB := Tk.text_brace hchk hk
 have hJN : Hid (∀ (v : Value) (F : Dom) (w' : World), SAt cTok w' F v ts → Below w.heap.size w w' → Calls Tryz.prog 6 #[v] w' (Tk.JoinPost (Tk.joinL ts) w')) := fun v F w' h1 hb =>
  Tk.join_any ts v F m w' h1 (fun t ht => by have := hsh t ht; omega) (HRW.out _ hb).max (Tk.tab_below htab hb)
 have hjl : Tk.joinL ts = (Tk.jn ts, 0) → (Tk.jn ts).length ≤ 2000 := fun e => by
  by_cases h : (Tk.jn ts).length ≤ 2000
  ·exact h
  ·rw [Tk.joinL, if_neg (by omega), Tk.join_long ts [] hchk (Nat.zero_le _) (by rw [List.nil_append]; omega)] at e
   exact absurd (show (1 : Int) = 0 from congrArg Prod.snd e) (by decide)
 clear hv h0 hd hchk hts hlen hF hG hS hcs
 go_enter Tryz.func3, Tryz.ntmps3
 rcases hJT with hj | ⟨hj, hcut⟩
 ·rw [hj] at hJN
  have HJN := Lib.hid hJN.out
  clear hj hJN hjl hTB hsh hOK hWB hBR hgood hru HSM htab hev hlw
  go_wp2_with fail
  refine HSC.out.mono ?_
  intro e w1 h1
  obtain ⟨G1, c1, rfl, hs1, hb1⟩ := h1
  have HB1 := Lib.hid hb1
  have HS := Lib.hid (HSH.out _ w1 ((SAt.bd (fun _ _ hr => cmd_bd 15 hr) hs1).mono (F' := fun b => b < w1.heap.size) (fun _ h => h.2)) hb1)
  clear hs1 hb1 HSC HSH
  go_wp2_with fail
  refine HS.out.mono ?_
  intro e w2 h2
  obtain ⟨⟨G2, c2, rfl, hs2⟩, hb2⟩ := h2
  have HB2 := Lib.hid (bt HB1.out hb2)
  have HJ := Lib.hid (HJN.out _ _ w2 hs2 (bt HB1.out hb2))
  clear hs2 hb2 HS HJN
  go_wp2_with fail
  refine HJ.out.mono ?_
  intro e w3 hq
  unfold Tk.JoinPost at hq
  obtain ⟨rfl, hb3⟩ := hq
  have HB3 := Lib.hid (bt HB2.out hb3)
  clear hb3 HJ
  go_wp2_with fail
  go_ret
  exact ⟨rfl, HB3.out⟩
 ·have hle := hjl hj
  rw [hj] at hJN
  have HJN := Lib.hid hJN.out
  obtain ⟨J, hJ⟩ : ∃ J, J = Tk.jn ts := ⟨_, rfl⟩
  have hws : wholeS (Tk.cutL J).1 = (cs, 0, 0) := by rw [hJ, hcut]; exact hWB
  have hz : readE (Tk.cutL J) = 0 := by unfold readE; rw [hws, hJ, hcut]; simpa using hru
  rw [← hJ] at HJN hcut hTB hle
  have HRD : Hid (∀ w', Below w.heap.size w w' → Calls Tryz.prog 7 #[.string ⟨J.toArray⟩] w' fun e w'' => (∃ G c, e = .returned (.tuple #[.slice G cs.length c, .int .i64 0]) ∧ SAt (cCmd (ts.length + 8)) w'' (fun _ => True) (.slice G cs.length c) cs) ∧ Below w'.heap.size w' w'') := fun w' hb => by
   have e : (⟨J.toArray⟩ : ByteArray).data.toList = J := rfl
   have h := read_any ⟨J.toArray⟩ m te pe w' (by show (List.toArray _).size ≤ _; rw [List.size_toArray]; omega) (HRW.out _ hb) (moved hev hb (Nat.le_refl _)) (by rw [e, hcut]; exact hOK.short) (fun _ _ => by rw [e, hws]; exact ⟨hgood, hlw⟩)
   refine h.mono ?_
   rintro e' w'' ⟨⟨u, rfl, hu⟩, hb''⟩
   rw [e] at hu ⊢
   have hu' := hu hz
   rw [hws, hcut] at hu'
   obtain ⟨G, c, rfl, -⟩ := hu'.form
   exact ⟨⟨G, c, by rw [hz], hu'.mono (fun _ _ => trivial)⟩, hb''⟩
  have HRB : Hid (∀ w', Below w.heap.size w w' → Calls Tryz.prog 7 #[.string ⟨(J ++ [125]).toArray⟩] w' fun e w'' => (∃ v c, e = .returned (.tuple #[v, .int .i64 c]) ∧ c ≠ 0) ∧ Below w'.heap.size w' w'') := fun w' hb => by
   have e : (⟨(J ++ [125]).toArray⟩ : ByteArray).data.toList = J ++ [125] := rfl
   have hbad : readE (Tk.cutL (J ++ [125])) ≠ 0 := by
    unfold readE
    rcases hTB with h | h
    ·rw [if_pos h]; exact h
    ·rw [h, if_neg (by simp)]
     show (if (wholeS (ts ++ [M 125])).2.2 ≠ 0 then (wholeS (ts ++ [M 125])).2.2 else ruleS (wholeS (ts ++ [M 125])).1) ≠ 0
     rw [if_pos hBR]; exact hBR
   have h := read_any ⟨(J ++ [125]).toArray⟩ m te pe w' (by show (List.toArray _).size ≤ _; rw [List.size_toArray]; have := ext_lo hle 125; omega) (HRW.out _ hb) (moved hev hb (Nat.le_refl _))
    (by
     rw [e]
     rcases hTB with h | h
     ·intro t ht
      rw [Tk.cut_none h] at ht; cases ht
     ·rw [h]; exact (hOK.app (OkL.cons ok125 OkL.nil)).short)
    (fun h1 h2 => by
     rw [e] at h1 h2
     rcases hTB with h | h
     ·exact absurd h1 h
     ·rw [h] at h2; exact absurd h2 hBR)
   refine h.mono ?_
   rintro e' w'' ⟨⟨u, rfl, -⟩, hb''⟩
   rw [e]
   exact ⟨⟨u, _, rfl, hbad⟩, hb''⟩
  have hcat : (⟨J.toArray⟩ : ByteArray) ++ ⟨#[125]⟩ = ⟨(J ++ [125]).toArray⟩ := by
   apply ByteArray.ext; simp [ByteArray.data_append]
  have HCAT := Lib.hid hcat
  have hJs : (⟨J.toArray⟩ : ByteArray).size ≤ 2000 := by show (List.toArray _).size ≤ _; rw [List.size_toArray]; exact hle
  clear hj hJN hjl hTB hsh hOK hWB hBR hgood hru htab hev hlw hcut hws hz hJ hcat
  go_wp2_with fail
  refine HSC.out.mono ?_
  intro e w1 h1
  obtain ⟨G1, c1, rfl, hs1, hb1⟩ := h1
  have HB1 := Lib.hid hb1
  have hS1 := (SAt.bd (fun _ _ hr => cmd_bd 15 hr) hs1).mono (F' := fun b => b < w1.heap.size) (fun _ h => h.2)
  have HS1 := Lib.hid hS1
  have HS := Lib.hid (HSH.out _ w1 hS1 hb1)
  clear hs1 hb1 HSC HSH hS1
  go_wp2_with fail
  refine HS.out.mono ?_
  intro e w2 h2
  obtain ⟨⟨G2, c2, rfl, hs2⟩, hb2⟩ := h2
  have HB2 := Lib.hid (bt HB1.out hb2)
  have HS2 := Lib.hid (HS1.out.stable (Same.of_below hb2) hb2.size)
  have HJ := Lib.hid (HJN.out _ _ w2 hs2 (bt HB1.out hb2))
  clear hs2 hb2 HS HJN HS1
  go_wp2_with fail
  refine HJ.out.mono ?_
  intro e w3 hq
  unfold Tk.JoinPost at hq
  obtain ⟨rfl, hb3⟩ := hq
  have HB3 := Lib.hid (bt HB2.out hb3)
  have HS3 := Lib.hid (HS2.out.stable (Same.of_below hb3) hb3.size)
  have HR1 := Lib.hid (HRD.out w3 (bt HB2.out hb3))
  clear hb3 HJ HS2 HRD
  go_wp2_with fail
  refine HR1.out.mono ?_
  rintro e w4 ⟨⟨G4, c4, rfl, hs4⟩, hb4⟩
  have HB4 := Lib.hid (bt HB3.out hb4)
  have HS4 := Lib.hid (HS3.out.stable (Same.of_below hb4) hb4.size)
  have HT4 := Lib.hid hs4
  have HR2 := Lib.hid (HRB.out w4 (bt HB3.out hb4))
  clear hs4 hb4 HR1 HS3 HRB
  go_wp2_with fail
  rw [HCAT.out]
  refine HR2.out.mono ?_
  rintro e w5 ⟨⟨v5, z, rfl, hz⟩, hb5⟩
  have HB5 := Lib.hid (bt HB4.out hb5)
  have q1 : decide (z = 0) = false := decide_eq_false hz
  have q2 : (z == 0) = false := by simpa using hz
  have q3 : (z != 0) = true := by simpa using hz
  have HC1 := Lib.hid (HSM.out _ _ _ w5 ((HS4.out.stable (Same.of_below hb5) hb5.size).mono (fun _ _ => trivial)) (HT4.out.stable (Same.of_below hb5) hb5.size))
  clear hb5 HR2 HS4 HT4 HSM
  go_wp2_with fail
  refine HC1.out.mono ?_
  rintro e w6 ⟨rfl, hb6⟩
  have HB6 := Lib.hid (bt HB5.out hb6)
  clear hb6 HC1
  go_wp2_with fail
  go_ret
  exact ⟨rfl, HB6.out⟩
theorem ruleText_walk (v : Value) (n : Nat) (l : List Stk) (mx : Int) (W : World) (h : SAt (cStk n) W (fun _ => True) v l) (hlen : l.length ≤ 140737488351232) (hT : Tabs W W.heap.size) (hE : ExtAt W ∧ 1 < W.heap.size) (hN : NamesAt W ∧ 7 < W.heap.size)
    (htab : Lib.TabIs Tryz.prog W "internal/strconv.uint64pow10" .u64 Lib.pow10Tab) (hev : ∃ te pe, W.cell? ⟨13, 0, none⟩ = some (.iface te pe)) (hmx : W.cell? ⟨5, 0, none⟩ = some (.int .i64 mx)) :
    Calls Tryz.prog 3 #[v] W fun e w' => e = .returned (.bool true) ∧ Below W.heap.size W w' := ruleText_any l v n _ mx W h hlen ⟨hT, hE, hN, hmx⟩ htab hev
end Go.Proofs.YtjfclekmhfgkmaaGreatDoor.Sc
