/- On the way. -/
import Derived.Test.YtpfbkdbblpppdaaGreatDoorEJdB
import Derived.Test.YtpfbkdbblpppdaaGreatDoorEHeldBy
import Derived.Test.YtpfbkdbblpppdaaGreatDoorERuAll
import Derived.Laws.StructEq
import Derived.BigQuiet
set_option linter.unusedVariables false
set_option linter.unusedSimpArgs false
namespace Go.Proofs.YtpfbkdbblpppdaaGreatDoor.Jd
open Go.RowKit
open Sc (Str Tst Cmd cStr strC tstC cTst cCmd RW Stk cStk scriptS ruleS)
theorem has_quad {w : World} {b : Nat} {a0 a1 a2 a3 : Value} (h : Has w b [a0, a1, a2, a3]) : w.cell? ⟨b, 0, none⟩ = some a0 ∧ w.cell? ⟨b, 1, none⟩ = some a1 ∧ w.cell? ⟨b, 2, none⟩ = some a2 ∧ w.cell? ⟨b, 3, none⟩ = some a3 :=
 ⟨h.1 0 _ rfl, h.1 1 _ rfl, h.1 2 _ rfl, h.1 3 _ rfl⟩
def CrsAt (w : World) (C : Nat) (c : Crs) : Prop := ∃ G k, Has w C [.slice G c.acts.length k, .int .i64 c.flags, .bool c.asked, .int .i64 c.fault] ∧ SAt cAct w (fun b => b < w.heap.size) (.slice G c.acts.length k) c.acts
theorem CrsAt.down {w w' : World} {C : Nat} {c : Crs} (h : CrsAt w C c) (hb : Below w.heap.size w w') : CrsAt w' C c := by
 obtain ⟨G, k, h1, h2⟩ := h
 exact ⟨G, k, h1.down hb, (h2.down hb).mono fun b h => Nat.lt_of_lt_of_le h hb.size⟩
theorem row_sat {w : World} {base : Nat} {u : Value} {l : List Act} (h : w.ownsRow base 65 3 u l.length (l.flatMap actC)) : SAt cAct w (fun b => b < w.heap.size) u l := by
 have h1 : SAt cAct w (fun b => u.ownBlock = some b) u l := by
  have h0 : SAt cAct w (fun _ => True) u l := SAt.of_row (f := actC) (hf := fun _ => rfl) h (fun _ _ => trivial)
  obtain ⟨G, cap, rfl, hc⟩ := h0.form
  refine ⟨G, cap, rfl, hc, fun i x hi => ?_⟩
  obtain ⟨g, off, vs, hg, -, hl, hr, hcell⟩ := h0.get i (List.getElem?_eq_some_iff.1 hi).1
  rw [(List.getElem?_eq_some_iff.1 hi).2] at hr
  subst hg
  exact ⟨g, off, rfl, rfl, hl, vs, hr, hcell⟩
 exact h1.mono fun b hb => (World.ownsRow.lt h _ hb).2
def EndS (l : List Act) (n : Nat) (w : World) (e : Ending) (w' : World) : Prop := ∃ G c, e = .returned (.tuple #[.slice G n c, .int .i64 0]) ∧ SAt cAct w' (fun b => b < w'.heap.size) (.slice G n c) l ∧ Below w.heap.size w w'
theorem EndP.s {l : List Act} {n : Nat} {w w' : World} {e : Ending} (h : EndP l w e w') (hn : l.length = n) : EndS l n w e w' := by
 obtain ⟨⟨u, rfl, hr⟩, hb⟩ := h
 obtain ⟨G, c, rfl⟩ := Sc.row_slice hr
 subst hn
 exact ⟨G, c, rfl, row_sat hr, hb⟩
end Go.Proofs.YtpfbkdbblpppdaaGreatDoor.Jd
namespace Go.Proofs.YtpfbkdbblpppdaaGreatDoor.Jd
open Go.RowKit
open Sc (Str Tst Cmd cStr strC tstC cTst cCmd RW Stk cStk scriptS ruleS FormC GoodC wC reqC T0 cmdS)
def CmdOk (c : Cmd) : Prop := FormC c ∧ GoodC c ∧ (∀ s ∈ c.texts, s.length ≤ 1000000) ∧ GoodJ c ∧ (wC c).length ≤ 2000
theorem req_ok : CmdOk reqC := ⟨Sc.req_form, Sc.reqC_good, Sc.reqC_small, req_goodJ, by decide⟩
theorem cB_two : ∀ m, m ≤ 2 → Sc.cB m ≤ 2000
 | 0, _ | 1, _ | 2, _ => by decide
theorem cmdS_okk (m : Nat) (hm : m ≤ 2) (x : Stk) : CmdOk (cmdS m x) := ⟨Sc.cmdS_form m x, Sc.cmdS_good m x, Sc.texts_small m x, cmdS_goodJ m x, Nat.le_trans (Sc.cmdS_len m x) (cB_two m hm)⟩
theorem cmdsS_okk (m : Nat) (hm : m ≤ 2) (l : List Stk) : ∀ c ∈ Sc.cmdsS m l, CmdOk c := fun c hc => by
 obtain ⟨y, -, rfl⟩ := List.mem_map.1 hc
 exact cmdS_okk m hm y
theorem script_okk (l : List Stk) : ∀ c ∈ scriptS l, CmdOk c := by
 obtain ⟨r, e, k, rfl⟩ := Sc.script_cons l
 rw [e]
 intro c hc
 rcases List.mem_cons.1 hc with rfl | hc
 ·exact req_ok
 ·exact cmdsS_okk 2 (by omega) l c (List.mem_of_mem_take hc)
theorem rule_ok (cs : List Cmd) (v : Value) (F : Dom) (m : Int) (V : World) (hcs : ∀ c ∈ cs, CmdOk c) (hl : cs.length ≤ 100) (hv : SAt (cCmd 15) V F v cs) (hW : RW V m) (V' : World) (hV : Below V.heap.size V V') :
    Calls Tryz.prog 33 #[v] V' (Sc.RulePost (ruleS cs) V') := by
 have ht : (cs.flatMap wC).length ≤ 1000000 := by
  have := Sc.flat_bound wC cs (B := 2000) fun c hc => (hcs c hc).2.2.2.2
  have : cs.length * 2000 ≤ 100 * 2000 := Nat.mul_le_mul_right _ hl
  omega
 exact Sc.rule_any 15 cs _ _ m V' (Sc.SAt.bd (fun _ _ hr => Sc.cmd_bd 15 hr) (hv.down hV)) (fun c hc => (hcs c hc).1) (fun c hc => (hcs c hc).2.1) (fun c hc => (hcs c hc).2.2.1) (fun b hb => hb.2) (hW.down hV) ht
theorem judge_list (cs : List Cmd) (v : Value) (F : Dom) (x : Ltt) (fs : List Fld) (body : Str) (m : Int) (V : World) (hcs : ∀ c ∈ cs, CmdOk c) (hl : cs.length ≤ 100) (h0 : ruleS cs = 0) (hv : SAt (cCmd 15) V F v cs) (hW : RW V m) (hx : LetOK x fs body) :
    Calls Tryz.prog 20 #[v, .agg (lttC x).toArray] V (JudgeP (cmdsJ x fs cs C0).1 V) := by
 refine judge_any 15 cs v F x fs body m V hv (fun c hc => (hcs c hc).2.2.2.1) (by omega) hW.names hW.max hx fun V' hV' => ?_
 have := rule_ok cs v F m V hcs hl hv hW V' hV'
 rw [h0] at this
 exact this
def JudgeQ (z : Int) (c : Crs) (w : World) (e : Ending) (w' : World) : Prop := ∃ G k, e = .returned (.tuple #[.agg #[.slice G c.acts.length k, .int .i64 c.flags, .bool c.asked, .int .i64 c.fault], .int .i64 z]) ∧ SAt cAct w' (fun b => b < w'.heap.size) (.slice G c.acts.length k) c.acts ∧ Below w.heap.size w w'
theorem JudgeP.q {c : Crs} {w w' : World} {e : Ending} (h : JudgeP c w e w') : JudgeQ 0 c w e w' := by
 obtain ⟨u, rfl, hr, hb⟩ := h
 obtain ⟨G, k, rfl⟩ := Sc.row_slice hr
 exact ⟨G, k, rfl, row_sat hr, hb⟩
theorem crsq_alloc {V : World} {c : Crs} {G : Option Addr} {k : Nat} (h : SAt cAct V (fun b => b < V.heap.size) (.slice G c.acts.length k) c.acts) (t : TypeId) : CrsAt (V.alloc (.cells #[.slice G c.acts.length k, .int .i64 c.flags, .bool c.asked, .int .i64 c.fault] t)) V.heap.size c := by
 have hb := ba (Below.refl V.heap.size V) (.cells #[.slice G c.acts.length k, .int .i64 c.flags, .bool c.asked, .int .i64 c.fault] t)
 exact ⟨G, k, Has.alloc V [.slice G c.acts.length k, .int .i64 c.flags, .bool c.asked, .int .i64 c.fault] t, (h.down hb).mono fun b h => Nat.lt_of_lt_of_le h hb.size⟩
end Go.Proofs.YtpfbkdbblpppdaaGreatDoor.Jd
