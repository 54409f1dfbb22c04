/-
  DERIVED. Merged of: ScriptTorn.
-/
import Derived.Test.YtobdokabelilmaaDoorRdE
import Derived.Deep.RegionLaw
namespace Go.Proofs.YtobdokabelilmaaDoor.Sc
open Go.RowKit
open Tk (Tok)

set_option maxHeartbeats 8000000 in
set_option maxRecDepth 20000 in
theorem scriptTorn_any (l : List Stk) (v : Value) (n : Nat) (F : Dom) (z : Int) (w : World) (hv : SAt (cStk n) w F v l) (hlen : l.length ≤ 140737488351232) (htab : Tabs w w.heap.size) (hz0 : -9223372036854775808 ≤ z) (hz1 : z ≤ 9223372036854775807) :
  Calls Tryd.prog 7 #[v, .int .i64 z] w fun e w' => e = .returned (.bool true) ∧ Below w.heap.size w w' := by
 have HTB : Hid (∀ w', Below w.heap.size w w' → Tabs w' w'.heap.size) := fun w' hb => (htab.down (Nat.le_refl _) hb).up hb.size
 have HSC := Lib.hid (script_any l v n F w hv hlen htab)
 obtain ⟨G0, c0, rfl, -⟩ := hv.form
 have hF := script_form l; have hk := script_toks l; have h0 := script_ok l; have hd := script_fit l; have hne := wC_len _ (script_ne l)
 obtain ⟨cs, hcs⟩ : ∃ cs, cs = scriptS l := ⟨_, rfl⟩
 rw [← hcs] at HSC hF hk h0 hd hne
 obtain ⟨ts, hts⟩ : ∃ ts, ts = cs.flatMap wC := ⟨_, rfl⟩
 have hTN := whole_torn hF hd hk
 have hOK := ok_all hF
 have HSH : Hid (∀ (u : Value) (w' : World), SAt (cCmd 15) w' (fun b => b < w'.heap.size) u cs → Below w.heap.size w w' → Calls Tryd.prog 15 #[u] w' fun e w'' => (∃ G c, e = .returned (.tuple #[.slice G ts.length c, .int .i64 0]) ∧ SAt cTok w'' (fun b => b < w''.heap.size) (.slice G ts.length c) ts) ∧ Below w'.heap.size w' w'') := fun u w' hu hb => by
  rw [hts]; exact show_fine 15 cs u _ w' hu hF (fun b h => h) (HTB.out _ hb) (by omega) h0
 rw [← hts] at hk hTN hOK hne
 have HK := Lib.hid hk; have HTN := Lib.hid hTN; have HOK := Lib.hid hOK
 have hn1 : (ts.length == 0) = false := beq_eq_false_iff_ne.2 (by omega)
 have hn2 : ((ts.length : Int) == 0) = false := beq_eq_false_iff_ne.2 (by omega)
 have HPK := Lib.hid (fun w => picked_any z ts.length w hz0 hz1 (by omega) (by omega))
 have hpl := pick_lt z ts.length (by omega)
 generalize pick z ts.length = k at HPK hpl
 clear hF hd h0 hTN hOK hcs hts hv hlen htab hz0 hz1
 go_enter Tryd.func7, Tryd.ntmps7
 go_wp2_with fail
 refine HSC.out.mono ?_
 intro e w1 h1
 obtain ⟨G1, c1, rfl, hs1, hb1⟩ := h1
 have HB1 := Lib.hid hb1
 have hSH := HSH.out _ w1 ((SAt.bd (fun _ _ hr => cmd_bd 15 hr) hs1).mono (fun _ h => h.2)) hb1
 have HS := Lib.hid hSH
 clear hs1 hb1 HSC hSH HSH
 go_wp2_with fail
 refine HS.out.mono ?_
 intro e w2 h2
 obtain ⟨⟨G2, c2, rfl, hs2⟩, hb2⟩ := h2
 have hb12 := bt HB1.out hb2
 have HB2 := Lib.hid hb12
 have hpa : Calls Tryd.prog 17 #[.slice G2 k k] w2 (ParseP (ts.take k) w2) :=
  parse_any (ts.take k) _ _ w2 (sat_take hs2 k (Nat.le_of_lt hpl)) (fun b hb => hb) (HTB.out _ hb12) (HOK.out.take k).short
 have HPA := Lib.hid hpa
 obtain ⟨_, c2', hcc, hle2, -⟩ := id hs2
 have hkc : k ≤ c2 := by cases hcc; omega
 have hkn : (k : Int) ≤ (ts.length : Int) := by omega
 clear hs2 hb2 hb12 hpa hcc hle2 HS
 go_wp2_with fail
 refine (HPK.out _).mono ?_
 rintro e w3 ⟨rfl, rfl⟩
 clear HPK
 go_wp2_with fail
 refine HPA.out.mono ?_
 intro e w4 h4
 obtain ⟨v4, rfl, hs4, hb4⟩ := h4
 have HB4 := Lib.hid (bt HB2.out hb4)
 obtain ⟨G4, c4, rfl, -⟩ := hs4.form
 clear hs4 hb4 HPA
 rcases HTN.out k (Nat.le_of_lt hpl) with e4 | ⟨ds, e4, hds⟩
 ·rw [e4]
  clear HTN e4
  go_wp2_with fail
  go_ret
  exact ⟨rfl, HB4.out⟩
 ·rw [e4]
  have hle : decide ((ds.length : Int) ≤ (cs.length : Int)) = true := decide_eq_true (by omega)
  clear HTN e4
  go_wp2_with fail
  go_ret
  exact ⟨rfl, HB4.out⟩
theorem scriptTorn_walk (v : Value) (n : Nat) (l : List Stk) (z : Int) (W : World) (h : SAt (cStk n) W (fun _ => True) v l) (hlen : l.length ≤ 140737488351232) (hz : -9223372036854775808 ≤ z ∧ z ≤ 9223372036854775807) (hT : Tabs W W.heap.size) :
  Calls Tryd.prog 7 #[v, .int .i64 z] W fun e w' => e = .returned (.bool true) ∧ Below W.heap.size W w' := scriptTorn_any l v n _ z W h hlen hT hz.1 hz.2
end Go.Proofs.YtobdokabelilmaaDoor.Sc
