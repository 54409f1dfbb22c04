/-
  DERIVED. Of: DvScr.
-/
import Derived.Test.YtpfbkdbblpppdaaGreatDoorDDvActs
import Derived.Test.YtpfbkdbblpppdaaGreatDoorDJdOneP
set_option linter.unusedVariables false
set_option linter.unusedSimpArgs false
namespace Go.Proofs.YtpfbkdbblpppdaaGreatDoor.Dv
open Go.RowKit
open Sc (Str Stk Cmd T0 reqC reqV strs ruleS cCmd cStr RW wC FormC GoodC)
open Jd (Ltt partL lttC Crs cmdJ cmdsJ endJ rdJ C0 LetOK CmdOk)

theorem endJ_len {c : Crs} (h : c.acts.length ≤ 6) : (endJ c).length ≤ 6 := by
  unfold endJ
  split
  · show 1 ≤ 6; omega
  · split
    · show 1 ≤ 6; omega
    · exact h
theorem deliver_list (s : St) (x : Ltt) (fs : List Fld) (body : Str) (cs : List Cmd) (C : Crs) (la : List Jd.Act) (xs : List Ent) (vB vS v : Value) (m : Int) (w : World) (F F' : Dom) (hB : SAt cBox w F vB s.boxes) (hS : SAt cEnt w F vS s.spool) (hg : GoodS s) (hW : RW w m) (hx : LetOK x fs body)
    (hcs : ∀ c ∈ cs, CmdOk c) (hl : cs.length ≤ 100) (h0 : ruleS cs = 0) (hC : C = (cmdsJ x fs cs C0).1) (hok : CrsOk C) (hla : endJ C = la) (hxs : planD x (s.boxes.map Bx.name) la = xs) (hD : DelOk x (s.boxes.map Bx.name)) (hv : SAt (cCmd 15) w F' v cs) :
    Calls Tryz.prog 27 #[.agg #[vB, vS], .agg (lttC x).toArray, v] w (DelR xs (allS s xs) w) := by
  obtain ⟨Gc, cc, rfl, -⟩ := id hv.form
  have hlen : C.acts.length ≤ 6 := by rw [hC]; exact Jd.cmdsJ_len x fs cs C0 (by unfold C0; decide)
  have hE := endJ_ok hok
  have := deliver_any s x C vB vS Gc cs.length cc m w F hB hS hg (fun V hV => by rw [hC]; exact Jd.judge_list cs _ F' x fs body m V hcs hl h0 (hv.down hV) (hW.down hV) hx) hlen hok.1 (fun a ha => (hE a ha).kinds) (endJ_len hlen)
    (fun e he => small_of_form ((planD_ok hD _ hE).1 e he).1) (by have := hx.ltt; exact this.1) hW.max
  rw [hla, hxs] at this
  exact this.mono fun _ _ h => h.r
/-! scripts of one command -/
def plainC (k : Int) (tx : List Str) : Cmd := ⟨k, tx, T0, [], []⟩
theorem plain_fit {k : Int} (h : k ≠ 2) (tx : List Str) : Sc.fitC 0 (plainC k tx) = true := by rw [Sc.fitC_eq, if_neg (show ¬ (plainC k tx).kind = 2 from h)]; rfl
theorem req_rule {k : Int} (h1 : k ≠ 1) (h2 : k ≠ 2) {tx : List Str} (hl : tx.length ≤ 1) (hr : Sc.cmdR Sc.extL (plainC k tx) = 0) : ruleS [reqC, plainC k tx] = 0 := by
  refine Jd.rule_small [plainC k tx] (fun c hc => ?_) (fun c hc => ?_) ?_ ?_
  · rw [List.mem_singleton] at hc; subst hc; exact h1
  · rw [List.mem_singleton] at hc; subst hc; exact plain_fit h2 tx
  · rw [List.flatMap_cons, List.flatMap_nil, List.append_nil]
    have := Sc.plain_len k h2 tx hl
    exact Nat.le_trans this (by omega)
  · rw [Sc.cmdsR, Sc.cmdsR, hr]; rfl
theorem file_rule {n : Str} (hn : nameCode n = 0) : ruleS [reqC, plainC 5 [n]] = 0 := by
  refine req_rule (by decide) (by decide) (Nat.le_refl _) ?_
  rw [Sc.cmdR_eq, if_neg (show ¬ (plainC 5 [n]).kind = 1 by show ¬ (5 : Int) = 1; decide), if_neg (show ¬ (plainC 5 [n]).kind = 2 by show ¬ (5 : Int) = 2; decide), if_pos (show (plainC 5 [n]).kind = 5 from rfl)]
  show Sc.orE (Sc.needR Sc.extL Sc.fileinW) (nameCode n) = 0
  rw [hn]; decide
theorem rej_rule (t : Str) : ruleS [reqC, plainC 7 [t]] = 0 := by
  refine req_rule (by decide) (by decide) (Nat.le_refl _) ?_
  rw [Sc.cmdR_eq, if_neg (show ¬ (plainC 7 [t]).kind = 1 by show ¬ (7 : Int) = 1; decide), if_neg (show ¬ (plainC 7 [t]).kind = 2 by show ¬ (7 : Int) = 2; decide), if_neg (show ¬ (plainC 7 [t]).kind = 5 by show ¬ (7 : Int) = 5; decide), if_pos (show (plainC 7 [t]).kind = 7 from rfl)]
  decide
def annW : Str := [65, 110, 110, 32, 60, 97, 64, 98, 46, 99, 62]
def abcW : Str := [97, 64, 98, 46, 99]
theorem disc_rule : ruleS [plainC 4 []] = 0 := by decide +kernel
theorem red_rule : ruleS [plainC 6 [annW]] = 0 := by decide +kernel
theorem red_to : rdJ [annW] = abcW := by decide +kernel
theorem red_one : oneL abcW = true := by decide +kernel
theorem plain_ok {k : Int} {tx : List Str} (hk : k = 4 ∧ tx = [] ∨ k = 5 ∧ (∃ n : Str, tx = [n] ∧ n.length ≤ 100) ∨ k = 6 ∧ tx = [annW] ∨ k = 7 ∧ (∃ n : Str, tx = [n] ∧ n.length ≤ 100)) : CmdOk (plainC k tx) := by
  have hn2 : k ≠ 2 := by rcases hk with ⟨h, -⟩ | ⟨h, -⟩ | ⟨h, -⟩ | ⟨h, -⟩ <;> omega
  have hr : 1 ≤ k ∧ k ≤ 10 := by rcases hk with ⟨h, -⟩ | ⟨h, -⟩ | ⟨h, -⟩ | ⟨h, -⟩ <;> omega
  have hl : tx.length ≤ 1 := by
    rcases hk with ⟨-, rfl⟩ | ⟨-, n, rfl, -⟩ | ⟨-, rfl⟩ | ⟨-, n, rfl, -⟩
    · exact Nat.zero_le _
    all_goals exact Nat.le_refl _
  have ha : annW.length ≤ 100 := by decide
  have hs : ∀ s ∈ tx, s.length ≤ 100 := by
    rcases hk with ⟨-, rfl⟩ | ⟨-, n, rfl, h⟩ | ⟨-, rfl⟩ | ⟨-, n, rfl, h⟩
    · intro s hs; cases hs
    · intro s hs; rw [List.mem_singleton] at hs; subst hs; exact h
    · intro s hs; rw [List.mem_singleton] at hs; subst hs; exact ha
    · intro s hs; rw [List.mem_singleton] at hs; subst hs; exact h
  refine ⟨(FormC.iff _).2 ⟨?_, .inr ⟨hn2, rfl, rfl, rfl⟩⟩, (GoodC.iff _).2 ⟨⟨fun h => ?_, fun h => ?_, fun h => ?_, hr, Nat.zero_le _, Nat.zero_le _⟩, Sc.T0_len, Sc.nilCmd, Sc.nilCmd⟩, fun s h => by have := hs s h; omega,
    (Jd.GoodJ.iff _).2 ⟨fun _ => ⟨⟨hr.1, hr.2, hn2⟩, fun h => ?_, fun h => ?_, fun h => ?_⟩, fun h => absurd h hn2, ⟨Nat.zero_le _, Nat.zero_le _⟩, Jd.nilC, Jd.nilC⟩, Nat.le_trans (Sc.plain_len k hn2 tx hl) (by omega)⟩
  · show Sc.Form2 k tx.length
    unfold Sc.Form2
    rcases hk with ⟨rfl, rfl⟩ | ⟨rfl, n, rfl, -⟩ | ⟨rfl, rfl⟩ | ⟨rfl, n, rfl, -⟩ <;> simp
  · have h' : k = 5 := h
    rcases hk with ⟨e, -⟩ | ⟨-, n, rfl, hn⟩ | ⟨e, -⟩ | ⟨e, -⟩ <;> try omega
    exact ⟨n, rfl, by omega⟩
  · have h' : k = 6 := h
    rcases hk with ⟨e, -⟩ | ⟨e, -⟩ | ⟨-, rfl⟩ | ⟨e, -⟩ <;> try omega
    exact ⟨annW, rfl, by omega⟩
  · have h' : k = 8 ∨ k = 9 := h
    exfalso
    rcases hk with ⟨e, -⟩ | ⟨e, -⟩ | ⟨e, -⟩ | ⟨e, -⟩ <;> omega
  · have h' : k = 5 ∨ k = 7 := h
    rcases hk with ⟨e, -⟩ | ⟨-, n, rfl, -⟩ | ⟨e, -⟩ | ⟨-, n, rfl, -⟩ <;> try omega
    · exact ⟨n, rfl⟩
    · exact ⟨n, rfl⟩
  · have h' : k = 6 := h
    rcases hk with ⟨e, -⟩ | ⟨e, -⟩ | ⟨-, rfl⟩ | ⟨e, -⟩ <;> try omega
    exact ⟨annW, ([97], [98, 46, 99]), rfl, by show annW.length ≤ 2000; omega, by decide +kernel⟩
  · have h' : k = 8 ∨ k = 9 := h
    exfalso
    rcases hk with ⟨e, -⟩ | ⟨e, -⟩ | ⟨e, -⟩ | ⟨e, -⟩ <;> omega
theorem two_ok {c : Cmd} (h : CmdOk c) : ∀ d ∈ [reqC, c], CmdOk d := fun d hd => by
  rcases List.mem_cons.1 hd with rfl | hd
  · exact Jd.req_ok
  · rw [List.mem_singleton] at hd; subst hd; exact h
/-- what comes of them -/
def oneA (a : Jd.Act) : Crs := ⟨[a], 0, true, 0⟩
theorem oneA_ok {a : Jd.Act} (h : ActOk a) : CrsOk (oneA a) := ⟨⟨0, by decide, rfl⟩, fun b hb => by
  have hb' : b ∈ [a] := hb
  rw [List.mem_singleton] at hb'; subst hb'; exact h⟩
theorem oneA_end (a : Jd.Act) : endJ (oneA a) = [a] := rfl
theorem file_crs (x : Ltt) (fs : List Fld) (n : Str) : oneA ⟨5, n, 0⟩ = (cmdsJ x fs [reqC, plainC 5 [n]] C0).1 := by
  have e : cmdJ x fs (plainC 5 [n]) C0 = (oneA ⟨5, n, 0⟩, true) := by rw [Jd.cmdJ_eq, if_neg (show ¬ (plainC 5 [n]).kind = 2 by show ¬ (5 : Int) = 2; decide)]; rfl
  rw [cmdsJ, Jd.req_do, if_pos rfl, cmdsJ, e, if_pos rfl, cmdsJ]
theorem rej_crs (x : Ltt) (fs : List Fld) (n : Str) : oneA ⟨7, n, 0⟩ = (cmdsJ x fs [reqC, plainC 7 [n]] C0).1 := by
  have e : cmdJ x fs (plainC 7 [n]) C0 = (oneA ⟨7, n, 0⟩, true) := by rw [Jd.cmdJ_eq, if_neg (show ¬ (plainC 7 [n]).kind = 2 by show ¬ (7 : Int) = 2; decide)]; rfl
  rw [cmdsJ, Jd.req_do, if_pos rfl, cmdsJ, e, if_pos rfl, cmdsJ]
theorem disc_crs (x : Ltt) (fs : List Fld) : oneA ⟨4, [], 0⟩ = (cmdsJ x fs [plainC 4 []] C0).1 := by
  have e : cmdJ x fs (plainC 4 []) C0 = (oneA ⟨4, [], 0⟩, true) := by rw [Jd.cmdJ_eq, if_neg (show ¬ (plainC 4 []).kind = 2 by show ¬ (4 : Int) = 2; decide)]; rfl
  rw [cmdsJ, e, if_pos rfl, cmdsJ]
theorem red_crs (x : Ltt) (fs : List Fld) : oneA ⟨6, abcW, 0⟩ = (cmdsJ x fs [plainC 6 [annW]] C0).1 := by
  have e : cmdJ x fs (plainC 6 [annW]) C0 = (oneA ⟨6, rdJ [annW], 0⟩, true) := by rw [Jd.cmdJ_eq, if_neg (show ¬ (plainC 6 [annW]).kind = 2 by show ¬ (6 : Int) = 2; decide)]; rfl
  rw [cmdsJ, e, if_pos rfl, cmdsJ, red_to]
theorem file_act (n : Str) : ActOk ⟨5, n, 0⟩ := ⟨.inr (.inr (.inl rfl)), Int.le_refl _, by show (0 : Int) ≤ 31; decide⟩
theorem disc_act : ActOk ⟨4, [], 0⟩ := ⟨.inr (.inl rfl), Int.le_refl _, by show (0 : Int) ≤ 31; decide⟩
theorem red_act : ActOk ⟨6, abcW, 0⟩ := ⟨.inr (.inr (.inr (.inl ⟨rfl, red_one, by show abcW.length ≤ 100; decide⟩))), Int.le_refl _, by show (0 : Int) ≤ 31; decide⟩
theorem rej_act {t : Str} (h : t.length ≤ 2000) : ActOk ⟨7, t, 0⟩ := ⟨.inr (.inr (.inr (.inr ⟨rfl, h⟩))), Int.le_refl _, by show (0 : Int) ≤ 31; decide⟩
theorem file_plan (x : Ltt) (bs : List Str) (n : Str) : planD x bs [⟨5, n, 0⟩] = [⟨2, 0, 0, nmD bs n, [], x.text⟩] := rfl
theorem disc_plan (x : Ltt) (bs : List Str) : planD x bs [⟨4, [], 0⟩] = [] := rfl
theorem red_plan (x : Ltt) (bs : List Str) : planD x bs [⟨6, abcW, 0⟩] = [⟨6, 0, 0, [], abcW, x.text⟩] := rfl
theorem rej_plan (x : Ltt) (bs : List Str) (t : Str) : planD x bs [⟨7, t, 0⟩] = [⟨6, 0, 0, [], partL 1 x.fa x.fd, t⟩] := rfl
/-- what Deliver left, in a world behind -/
def DelM (out : List Ent) (r : St × Int) (F : Dom) (w : World) (Go : Option Addr) (no co : Nat) (H1 : Option Addr) (n1 d1 : Nat) (H2 : Option Addr) (n2 d2 : Nat) : Prop :=
  (r.2 = 0 → no = out.length ∧ SAt cEnt w F (.slice Go no co) out ∧ SAt cBox w F (.slice H1 n1 d1) r.1.boxes ∧ SAt cEnt w F (.slice H2 n2 d2) r.1.spool) ∧ (r.2 ≠ 0 → no = 0 ∧ n1 = 0 ∧ n2 = 0)
section
variable {out : List Ent} {r : St × Int} {F F' : Dom} {w w' : World} {Go H1 H2 : Option Addr} {no co n1 d1 n2 d2 : Nat}
theorem DelM.of (h1 : r.2 = 0 → no = out.length ∧ SAt cEnt w F (.slice Go no co) out ∧ SAt cBox w F (.slice H1 n1 d1) r.1.boxes ∧ SAt cEnt w F (.slice H2 n2 d2) r.1.spool) (h2 : r.2 ≠ 0 → no = 0 ∧ n1 = 0 ∧ n2 = 0) : DelM out r F w Go no co H1 n1 d1 H2 n2 d2 := ⟨h1, h2⟩
theorem DelM.down (h : DelM out r F w Go no co H1 n1 d1 H2 n2 d2) (hb : Below w.heap.size w w') : DelM out r F w' Go no co H1 n1 d1 H2 n2 d2 :=
  ⟨fun e => ⟨(h.1 e).1, (h.1 e).2.1.down hb, (h.1 e).2.2.1.down hb, (h.1 e).2.2.2.down hb⟩, h.2⟩
theorem DelM.mono (h : DelM out r F w Go no co H1 n1 d1 H2 n2 d2) (hF : ∀ b, F b → F' b) : DelM out r F' w Go no co H1 n1 d1 H2 n2 d2 :=
  ⟨fun e => ⟨(h.1 e).1, (h.1 e).2.1.mono hF, (h.1 e).2.2.1.mono hF, (h.1 e).2.2.2.mono hF⟩, h.2⟩
theorem DelM.bd (h : DelM out r F w Go no co H1 n1 d1 H2 n2 d2) : DelM out r (fun b => F b ∧ b < w.heap.size) w Go no co H1 n1 d1 H2 n2 d2 :=
  ⟨fun e => ⟨(h.1 e).1, flat_bd (h.1 e).2.1, box_bd (h.1 e).2.2.1, flat_bd (h.1 e).2.2.2⟩, h.2⟩
theorem DelM.set {T i : Nat} (u : Value) (h : DelM out r (fun b => b ≠ T) w Go no co H1 n1 d1 H2 n2 d2) : DelM out r (fun b => b ≠ T) (w.setCell ⟨T, i, none⟩ u) Go no co H1 n1 d1 H2 n2 d2 :=
  have hs : Same (fun b => b ≠ T) w (w.setCell ⟨T, i, none⟩ u) := fun b hb _ => Below.heap_setCell _ _ _ _ hb
  have hz : w.heap.size ≤ (w.setCell ⟨T, i, none⟩ u).heap.size := by simp [World.setCell]
  ⟨fun e => ⟨(h.1 e).1, (h.1 e).2.1.stable hs hz, (h.1 e).2.2.1.stable hs hz, (h.1 e).2.2.2.stable hs hz⟩, h.2⟩
theorem DelM.put {T : Nat} {a b : Value} (h : DelM out r (fun b => b ≠ T) w Go no co H1 n1 d1 H2 n2 d2) : DelM out r (fun b => b ≠ T) ((w.setCell ⟨T, 0, none⟩ a).setCell ⟨T, 1, none⟩ b) Go no co H1 n1 d1 H2 n2 d2 := (h.set a).set b
end
theorem off_box {w : World} {T i : Nat} {u v : Value} {l : List Bx} (h : SAt cBox w (fun b => b ≠ T) v l) : SAt cBox (w.setCell ⟨T, i, none⟩ u) (fun b => b ≠ T) v l := h.stable (fun b hb _ => Below.heap_setCell _ _ _ _ hb) (by simp [World.setCell])
theorem off_ent {w : World} {T i : Nat} {u v : Value} {l : List Ent} (h : SAt cEnt w (fun b => b ≠ T) v l) : SAt cEnt (w.setCell ⟨T, i, none⟩ u) (fun b => b ≠ T) v l := h.stable (fun b hb _ => Below.heap_setCell _ _ _ _ hb) (by simp [World.setCell])
theorem two_lit {V : World} {N A : Nat} {k : Int} {n : ByteArray} (hN : Has V N (strs reqC.texts)) (hA : Has V A [.string n]) :
    SAt (cCmd 15) (V.alloc (.cells (reqV N ++ ([.int .i64 k, .slice (some ⟨A, 0, none⟩) 1 1, .int .i64 0, .int .i64 0, .int .i64 0, .slice none 0 0, .slice none 0 0, .bool false, .int .i64 0, .slice none 0 0, .slice none 0 0, .slice none 0 0] : List Value)).toArray 50)) (fun _ => True) (.slice (some ⟨V.heap.size, 0, none⟩) 2 2) [reqC, plainC k [n.data.toList]] := by
  have hs : SAt cStr V (fun _ => True) (.slice (some ⟨A, 0, none⟩) 1 1) [n.data.toList] := by
    refine Sc.sat_strs (l := [n.data.toList]) ?_ trivial
    have e : strs [n.data.toList] = [.string n] := by show [Value.string ⟨n.data.toList.toArray⟩] = _; rw [Array.toArray_toList]
    rw [e]; exact hA
  have h := Sc.lit_sat (F := fun _ => True) V [(reqC, reqV N), (plainC k [n.data.toList], [.int .i64 k, .slice (some ⟨A, 0, none⟩) 1 1, .int .i64 0, .int .i64 0, .int .i64 0, .slice none 0 0, .slice none 0 0, .bool false, .int .i64 0, .slice none 0 0, .slice none 0 0, .slice none 0 0])] (fun p hp => by
    rcases List.mem_cons.1 hp with rfl | hp
    · exact (cCmd 15).mono (Sc.cmd_le (by omega) (Sc.req_rep (F := fun _ => True) hN trivial)) fun _ _ => trivial
    · rw [List.mem_singleton] at hp; subst hp; exact Sc.cmd_le (by omega) (Sc.rep_text (k := k) hs)) (by show 2 ≤ 100; omega)
  exact h.mono fun _ _ => trivial
theorem word_name (l : List UInt8) : nameCode (wordL l) = 0 := by
  have h1 := wordL_pos l
  have h2 := wordL_le l
  unfold nameCode
  rw [if_neg (by omega), if_pos]
  rw [List.all_eq_true]
  intro c hc
  unfold wordL at hc
  split at hc
  · rw [List.mem_singleton] at hc; subst hc; decide
  · obtain ⟨d, -, rfl⟩ := List.mem_map.1 hc
    have := lowB_nat d
    exact nameByte_yes _ (by omega) (by omega)
end Go.Proofs.YtpfbkdbblpppdaaGreatDoor.Dv
