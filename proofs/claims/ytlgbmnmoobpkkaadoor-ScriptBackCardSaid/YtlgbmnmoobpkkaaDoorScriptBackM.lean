/-
  DERIVED. Merged of: ScriptBack.
-/
import Derived.Test.YtlgbmnmoobpkkaaDoorRdE
import Derived.Test.YtlgbmnmoobpkkaaDoorRdF
import Derived.Deep.RegionLaw
namespace Go.Proofs.YtlgbmnmoobpkkaaDoor.Sc
open Go.RowKit
open Tk (Tok)

set_option maxHeartbeats 8000000 in
set_option maxRecDepth 20000 in
theorem scriptBack_any (l : List Stk) (v : Value) (n : Nat) (F : Dom) (w : World) (hv : SAt (cStk n) w F v l) (hlen : l.length ≤ 140737488351232) (htab : Tabs w w.heap.size) :
  Calls Tryd.prog 3 #[v] w fun e w' => e = .returned (.bool true) ∧ Below w.heap.size w w' := by
 have HTB : Hid (∀ w', Below w.heap.size w w' → Tabs w' w'.heap.size) := fun w' hb => (htab.down (Nat.le_refl _) hb).up hb.size
 have HSC := Lib.hid (script_any l v n F w hv hlen htab)
 obtain ⟨G0, c0, rfl, -⟩ := hv.form
 have hF := script_form l; have hk := script_toks l; have h0 := script_ok l; have hd := script_fit l; have hne := wC_len _ (script_ne l)
 obtain ⟨cs, hcs⟩ : ∃ cs, cs = scriptS l := ⟨_, rfl⟩
 rw [← hcs] at HSC hF hk h0 hd hne
 obtain ⟨ts, hts⟩ : ∃ ts, ts = cs.flatMap wC := ⟨_, rfl⟩
 have hWB := whole_back hF hd hk
 have hOK := ok_all hF
 have HSH : Hid (∀ (u : Value) (w' : World), SAt (cCmd 15) w' (fun b => b < w'.heap.size) u cs → Below w.heap.size w w' → Calls Tryd.prog 7 #[u] w' fun e w'' => (∃ G c, e = .returned (.tuple #[.slice G ts.length c, .int .i64 0]) ∧ SAt cTok w'' (fun b => b < w''.heap.size) (.slice G ts.length c) ts) ∧ Below w'.heap.size w' w'') := fun u w' hu hb => by
  rw [hts]; exact show_fine 15 cs u _ w' hu hF (fun b h => h) (HTB.out _ hb) (by omega) h0
 have HSM : Hid (∀ (K : Nat) (va vb : Value) (w' : World), SAt (cCmd 15) w' (fun _ => True) va cs → SAt (cCmd K) w' (fun _ => True) vb cs → Calls Tryd.prog 9 #[va, vb] w' fun e w'' => e = .returned (.bool true) ∧ Below w'.heap.size w' w'') := fun K va vb w' h1 h2 => sameC_every 15 cs K va vb _ _ w' h1 h2 hF (by omega)
 have HCK : Hid (∀ (K : Nat) (vb : Value) (w' : World), SAt (cCmd K) w' (fun b => b < w'.heap.size) vb cs → Below w.heap.size w w' → Calls Tryd.prog 10 #[vb] w' fun e w'' => e = .returned (.int .i64 (checkS cs)) ∧ Below w'.heap.size w' w'') := fun K vb w' h1 hb => check_any K cs vb _ w' h1 hF (fun b h => h) (HTB.out _ hb) (by omega)
 rw [h0] at HCK
 rw [← hts] at hk hWB hOK hne
 have HK := Lib.hid hk; have HWB := Lib.hid hWB; have HOK := Lib.hid hOK
 have hn1 : decide ((0 : Int) < (ts.length : Int)) = true := decide_eq_true (by omega)
 have hn2 : decide (0 < ts.length) = true := decide_eq_true hne
 clear hF hd h0 hWB hOK hcs hts hv hlen htab
 go_enter Tryd.func3, Tryd.ntmps3
 go_wp2_with fail
 refine HSC.out.mono ?_
 intro e w1 h1
 obtain ⟨G1, c1, rfl, hs1, hb1⟩ := h1
 have HB1 := Lib.hid hb1
 have hS1 := (SAt.bd (fun _ _ hr => cmd_bd 15 hr) hs1).mono (F' := fun b => b < w1.heap.size) (fun _ h => h.2)
 have HS1 := Lib.hid hS1
 have HS := Lib.hid (HSH.out _ w1 hS1 hb1)
 clear hs1 hb1 HSC HSH hS1
 go_wp2_with fail
 refine HS.out.mono ?_
 intro e w2 h2
 obtain ⟨⟨G2, c2, rfl, hs2⟩, hb2⟩ := h2
 have hb12 := bt HB1.out hb2
 have HB2 := Lib.hid hb12
 have HS2 := Lib.hid (HS1.out.stable (Same.of_below hb2) hb2.size)
 have hpa : Calls Tryd.prog 8 #[.slice G2 ts.length c2] w2 (ParseP ts w2) :=
  parse_any ts _ _ w2 hs2 (fun b hb => hb) (HTB.out _ hb12) HOK.out.short
 have HPA := Lib.hid hpa
 clear hs2 hb2 hb12 hpa HS
 go_wp2_with fail
 refine HPA.out.mono ?_
 intro e w4 h4
 obtain ⟨v4, rfl, hs4, hb4⟩ := h4
 rw [HWB.out] at hs4 ⊢
 have HB4 := Lib.hid (bt HB2.out hb4)
 obtain ⟨G4, c4, rfl, -⟩ := hs4.form
 have HC1 := Lib.hid (HSM.out _ _ _ w4 ((HS2.out.stable (Same.of_below hb4) hb4.size).mono (fun _ _ => trivial)) (hs4.mono (fun _ _ => trivial)))
 have HS4 := Lib.hid ((SAt.bd (fun _ _ hr => cmd_bd _ hr) hs4).mono (F' := fun b => b < w4.heap.size) (fun _ h => h.2))
 clear hs4 hb4 HPA
 go_wp2_with fail
 refine HC1.out.mono ?_
 rintro e w5 ⟨rfl, hb5⟩
 have HB5 := Lib.hid (bt HB4.out hb5)
 have HC2 := Lib.hid (HCK.out _ _ w5 ((HS4.out.stable (Same.of_below hb5) hb5.size).mono (F' := fun b => b < w5.heap.size) (fun b h => Nat.lt_of_lt_of_le h hb5.size)) HB5.out)
 clear hb5 HC1 HSM
 go_wp2_with fail
 refine HC2.out.mono ?_
 rintro e w6 ⟨rfl, hb6⟩
 have HB6 := Lib.hid (bt HB5.out hb6)
 clear hb6 HC2
 go_wp2_with fail
 go_ret
 exact ⟨rfl, HB6.out⟩
theorem scriptBack_walk (v : Value) (n : Nat) (l : List Stk) (W : World) (h : SAt (cStk n) W (fun _ => True) v l) (hlen : l.length ≤ 140737488351232) (hT : Tabs W W.heap.size) :
  Calls Tryd.prog 3 #[v] W fun e w' => e = .returned (.bool true) ∧ Below W.heap.size W w' := scriptBack_any l v n _ W h hlen hT
end Go.Proofs.YtlgbmnmoobpkkaaDoor.Sc
