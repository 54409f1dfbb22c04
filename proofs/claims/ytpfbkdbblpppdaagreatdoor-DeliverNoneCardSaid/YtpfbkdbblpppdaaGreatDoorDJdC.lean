/-
  DERIVED. Of: JdCall, CmdApp, JdMore.
-/
import Derived.Test.YtpfbkdbblpppdaaGreatDoorDJdB
import Derived.Test.YtpfbkdbblpppdaaGreatDoorDHeldBy
import Derived.Test.YtpfbkdbblpppdaaGreatDoorDRuAll
set_option linter.unusedVariables false
set_option linter.unusedSimpArgs false
namespace Go.Proofs.YtpfbkdbblpppdaaGreatDoor.Jd
open Go.RowKit
open Sc (Str Tst Cmd cStr strC tstC cTst cCmd RW Stk cStk scriptS ruleS)

def zeroC : List Value := [.slice none 0 0, .int .i64 0, .bool false, .int .i64 0]
theorem has_quad {w : World} {b : Nat} {a0 a1 a2 a3 : Value} (h : Has w b [a0, a1, a2, a3]) : w.cell? ⟨b, 0, none⟩ = some a0 ∧ w.cell? ⟨b, 1, none⟩ = some a1 ∧ w.cell? ⟨b, 2, none⟩ = some a2 ∧ w.cell? ⟨b, 3, none⟩ = some a3 :=
  ⟨h.1 0 _ rfl, h.1 1 _ rfl, h.1 2 _ rfl, h.1 3 _ rfl⟩
theorem has_quadf {w : World} {b : Nat} {a0 a1 a2 a3 : Value} (h : Has w b [a0, a1, a2, a3]) : w.frozen? ⟨b, 0, none⟩ = false ∧ w.frozen? ⟨b, 1, none⟩ = false ∧ w.frozen? ⟨b, 2, none⟩ = false ∧ w.frozen? ⟨b, 3, none⟩ = false :=
  ⟨h.2.1 0 (by simp), h.2.1 1 (by simp), h.2.1 2 (by simp), h.2.1 3 (by simp)⟩
/-- the course in block C -/
def CrsAt (w : World) (C : Nat) (c : Crs) : Prop := ∃ G k, Has w C [.slice G c.acts.length k, .int .i64 c.flags, .bool c.asked, .int .i64 c.fault] ∧ SAt cAct w (fun b => b < w.heap.size) (.slice G c.acts.length k) c.acts
theorem CrsAt.down {w w' : World} {C : Nat} {c : Crs} (h : CrsAt w C c) (hb : Below w.heap.size w w') : CrsAt w' C c := by
  obtain ⟨G, k, h1, h2⟩ := h
  exact ⟨G, k, h1.down hb, (h2.down hb).mono fun b h => Nat.lt_of_lt_of_le h hb.size⟩
theorem row_sat {w : World} {base : Nat} {u : Value} {l : List Act} (h : w.ownsRow base 65 3 u l.length (l.flatMap actC)) : SAt cAct w (fun b => b < w.heap.size) u l := by
  have h1 : SAt cAct w (fun b => u.ownBlock = some b) u l := by
    have h0 : SAt cAct w (fun _ => True) u l := SAt.of_row (f := actC) (hf := fun _ => rfl) h (fun _ _ => trivial)
    obtain ⟨G, cap, rfl, hc⟩ := h0.form
    refine ⟨G, cap, rfl, hc, fun i x hi => ?_⟩
    obtain ⟨g, off, vs, hg, -, hl, hr, hcell⟩ := h0.get i (List.getElem?_eq_some_iff.1 hi).1
    rw [(List.getElem?_eq_some_iff.1 hi).2] at hr
    subst hg
    exact ⟨g, off, rfl, rfl, hl, vs, hr, hcell⟩
  exact h1.mono fun b hb => (World.ownsRow.lt h _ hb).2
def put4 (V : World) (C : Nat) (a b c d : Value) : World := (((V.setCell ⟨C, 0, none⟩ a).setCell ⟨C, 1, none⟩ b).setCell ⟨C, 2, none⟩ c).setCell ⟨C, 3, none⟩ d
theorem put4_below {B : Nat} {w V : World} {C : Nat} (h : Below B w V) (hC : B ≤ C) (a b c d : Value) : Below B w (put4 V C a b c d) :=
  Below.setCell (Below.setCell (Below.setCell (Below.setCell h hC _) hC _) hC _) hC _
theorem put4_has {V : World} {L C : Nat} {vs : List Value} (h : Has V L vs) (hne : L ≠ C) (a b c d : Value) : Has (put4 V C a b c d) L vs :=
  (((h.else' hne _).else' hne _).else' hne _).else' hne _
/-- 'the variable got the course' -/
theorem crs_put {V : World} {C base : Nat} {u z0 z1 z2 z3 : Value} {c : Crs} (h : Has V C [z0, z1, z2, z3]) (hr : V.ownsRow base 65 3 u c.acts.length (c.acts.flatMap actC)) (hne : u.ownBlock ≠ some C) : CrsAt (put4 V C u (.int .i64 c.flags) (.bool c.asked) (.int .i64 c.fault)) C c := by
  obtain ⟨G, k, rfl⟩ := Sc.row_slice hr
  refine ⟨G, k, ?_, row_sat (base := base) (row_off (row_off (row_off (row_off hr hne _ _) hne _ _) hne _ _) hne _ _)⟩
  exact (((h.set' (i := 0) _ (by simp)).set' (i := 1) _ (by simp)).set' (i := 2) _ (by simp)).set' (i := 3) _ (by simp)
/-- behind 'c, e := Judge(..)': the variables c and e, the letter in block L -/
def JAt (x : Ltt) (c : Crs) (L : Nat) (w : World) (vc ve : Value) (wx : World) : Prop := ∃ C, vc = .pointer (some ⟨C, 0, none⟩) ∧ ve = .int .i64 0 ∧ CrsAt wx C c ∧ Has wx L (lttC x) ∧ Below w.heap.size w wx
theorem judge_nil (x : Ltt) (fs : List Fld) (body : Str) (m : Int) (V : World) (hW : RW V m) (hx : LetOK x fs body) :
    Calls Tryz.prog 20 #[.slice none 0 0, .agg (lttC x).toArray] V (JudgeP C0 V) := by
  have hs : ∀ V', SAt (cCmd 15) V' (fun b => b < V'.heap.size) (.slice none 0 0) [] := fun V' => SAt.nil _ _ _
  refine judge_any 15 [] (.slice none 0 0) (fun b => b < V.heap.size) x fs body m V (hs V) (fun a h => by cases h) (by simp) hW.names hW.max hx fun V' hV' => ?_
  have := Sc.rule_any 15 [] (.slice none 0 0) _ m V' (hs V') (fun c h => by cases h) (fun c h => by cases h) (fun c h => by cases h) (fun b hb => hb) (hW.down hV') (by simp)
  exact this
/-- what End answers: so many actions -/
def EndS (l : List Act) (n : Nat) (w : World) (e : Ending) (w' : World) : Prop := ∃ G c, e = .returned (.tuple #[.slice G n c, .int .i64 0]) ∧ SAt cAct w' (fun b => b < w'.heap.size) (.slice G n c) l ∧ Below w.heap.size w w'
theorem EndP.s {l : List Act} {n : Nat} {w w' : World} {e : Ending} (h : EndP l w e w') (hn : l.length = n) : EndS l n w e w' := by
  obtain ⟨⟨u, rfl, hr⟩, hb⟩ := h
  obtain ⟨G, c, rfl⟩ := Sc.row_slice hr
  subst hn
  exact ⟨G, c, rfl, row_sat hr, hb⟩
theorem keep_sat (W : World) (t : TypeId) (f : Int) : SAt cAct (W.alloc (.cells #[.int .i64 3, .string ⟨#[]⟩, .int .i64 f] t)) (fun _ => True) (.slice (some ⟨W.heap.size, 0, none⟩) 1 1) [keepA f] := by
  have h := Has.alloc W [.int .i64 3, .string ⟨#[]⟩, .int .i64 f] t
  refine ⟨_, 1, rfl, Nat.le_refl _, fun i x hi => ?_⟩
  match i, hi with
  | 0, hi =>
    obtain rfl : keepA f = x := Option.some.inj hi
    refine ⟨_, 0, rfl, trivial, h.2.2, _, rfl, fun j u hj => ?_⟩
    rw [Nat.zero_mul, Nat.zero_add]
    exact (by simpa using h.1 j u hj)
theorem endJ_none : endJ C0 = [keepA 0] := rfl
theorem endJ_quiet {c : Crs} (h : c.fault = 0) (h2 : c.asked = false) : endJ c = [keepA c.flags] := by unfold endJ; rw [if_neg (by rw [h]; decide), if_pos h2]
end Go.Proofs.YtpfbkdbblpppdaaGreatDoor.Jd
namespace Go.Proofs.YtpfbkdbblpppdaaGreatDoor.Sc
open Go.RowKit

/-- 'v is a row of one's own, from B on, of the n commands cs' -/
def CRow (B : Nat) (w : World) (v : Value) (n : Nat) (cs : List Cmd) : Prop :=
  ∃ ps : Held Cmd, ps.map Prod.fst = cs ∧ ps.length = n ∧ w.ownsRow B 50 12 v n (hcells ps) ∧ ∀ p ∈ ps, (cCmd 15).rep w (fun b => b < w.heap.size ∧ v.ownBlock ≠ some b) p.1 p.2
theorem CRow.nil (B : Nat) (w : World) : CRow B w (.slice none 0 0) 0 [] := ⟨[], rfl, rfl, World.ownsRow_nil _ _ _ _, fun p hp => by cases hp⟩
theorem CRow.len {B n : Nat} {w : World} {v : Value} {cs : List Cmd} (h : CRow B w v n cs) : cs.length = n := by
  obtain ⟨ps, rfl, h2, -⟩ := h
  rw [List.length_map]; exact h2
theorem CRow.down {B n : Nat} {w w' : World} {v : Value} {cs : List Cmd} (h : CRow B w v n cs) (hb : Below w.heap.size w w') : CRow B w' v n cs := by
  obtain ⟨ps, h1, h2, h3, h4⟩ := h
  exact ⟨ps, h1, h2, row_down h3 hb, fun p hp => (cCmd 15).mono ((cCmd 15).stable (h4 p hp) (Same.of_below hb) hb.size) fun b h => ⟨Nat.lt_of_lt_of_le h.1 hb.size, h.2⟩⟩
theorem CRow.sat {B n : Nat} {w : World} {v : Value} {cs : List Cmd} (h : CRow B w v n cs) : SAt (cCmd 15) w (fun b => b < w.heap.size) v cs := by
  obtain ⟨ps, rfl, rfl, h3, h4⟩ := h
  have ho : ORow (cCmd 15) 50 w B (fun b => b < w.heap.size ∧ v.ownBlock ≠ some b) v ps := ⟨h3, h4, fun b hb h => h.2 hb⟩
  exact (SAt.bd (fun _ _ hr => cmd_bd 15 hr) (ho.sat (F := fun _ => True) (fun _ _ => trivial) (fun _ _ => trivial))).mono fun b hb => hb.2
theorem CRow.low {B n : Nat} {w : World} {v : Value} {cs : List Cmd} (h : CRow B w v n cs) {b : Nat} (hb : v.ownBlock = some b) : B ≤ b ∧ b < w.heap.size := by
  obtain ⟨ps, -, -, h3, -⟩ := h
  exact World.ownsRow.lt h3 _ hb
/-- a row that is laid at once -/
theorem CRow.lit {B : Nat} (W : World) (ps : Held Cmd) (hB : B ≤ W.heap.size) (hp : ∀ p ∈ ps, (cCmd 15).rep W (fun b => b < W.heap.size) p.1 p.2) (hn : ps.length ≤ 100) :
    CRow B (W.alloc (.cells (hcells ps).toArray 50)) (.slice (some ⟨W.heap.size, 0, none⟩) ps.length ps.length) ps.length (ps.map Prod.fst) := by
  have hb := ba (Below.refl W.heap.size W) (.cells (hcells ps).toArray 50)
  have hl : (hcells ps).length = ps.length * 12 := hcells_length (k := 12) fun p h => (cCmd 15).len (hp p h)
  refine ⟨ps, rfl, rfl, ?_, fun p h => (cCmd 15).mono ((cCmd 15).stable (hp p h) (Same.of_below hb) hb.size) fun b h => ⟨Nat.lt_of_lt_of_le h hb.size, fun e => ?_⟩⟩
  · have := World.ownsRow_lit (base := B) (e := 50) (size := 12) W (hcells ps).toArray ps.length hB (by unfold maxLen; omega) (by simpa using hl)
    simpa using this
  · have : W.heap.size = b := Option.some.inj e
    omega
theorem lit_sat {F : Dom} (W : World) (ps : Held Cmd) (hp : ∀ p ∈ ps, (cCmd 15).rep W F p.1 p.2) (hn : ps.length ≤ 100) :
    SAt (cCmd 15) (W.alloc (.cells (hcells ps).toArray 50)) (fun b => W.heap.size ≤ b ∨ F b) (.slice (some ⟨W.heap.size, 0, none⟩) ps.length ps.length) (ps.map Prod.fst) := by
  have hb := ba (Below.refl W.heap.size W) (.cells (hcells ps).toArray 50)
  have hl : (hcells ps).length = ps.length * 12 := hcells_length (k := 12) fun p h => (cCmd 15).len (hp p h)
  have h1 := World.ownsRow_lit (base := W.heap.size) (e := 50) (size := 12) W (hcells ps).toArray ps.length (Nat.le_refl _) (by unfold maxLen; omega) (by simpa using hl)
  have h2 : (W.alloc (.cells (hcells ps).toArray 50)).ownsRow W.heap.size 50 12 (.slice (some ⟨W.heap.size, 0, none⟩) ps.length ps.length) ps.length (hcells ps) := by simpa using h1
  have ho : ORow (cCmd 15) 50 (W.alloc (.cells (hcells ps).toArray 50)) W.heap.size (fun b => F b ∧ b < W.heap.size) (.slice (some ⟨W.heap.size, 0, none⟩) ps.length ps.length) ps :=
    ⟨h2, fun p h => (cCmd 15).stable (cmd_bd 15 (hp p h)) (Same.of_below hb) hb.size, fun b e h => by have e' : W.heap.size = b := Option.some.inj e; have := h.2; omega⟩
  exact ho.sat (fun b h => .inl h) fun b h => .inr h.1
/-- what append leaves -/
theorem crow_grown {B n m g cap : Nat} {w w' : World} {v : Value} {ps qs : Held Cmd} {cs ds : List Cmd} (hp1 : ps.map Prod.fst = cs) (hp2 : ps.length = n) (hp3 : ∀ p ∈ ps, (cCmd 15).rep w (fun b => b < w.heap.size ∧ v.ownBlock ≠ some b) p.1 p.2) (hq1 : qs.map Prod.fst = ds) (hq2 : qs.length = m)
    (hq3 : ∀ p ∈ qs, (cCmd 15).rep w (fun b => b < w.heap.size ∧ v.ownBlock ≠ some b) p.1 p.2) (hown : w'.ownsRow B 50 12 (.slice (some ⟨g, 0, none⟩) (n + m) cap) (n + m) (hcells ps ++ hcells qs)) (hg : w.grownBy w' v.ownBlock) (hat : v.ownBlock = some g ∨ g = w.heap.size) :
    CRow B w' (.slice (some ⟨g, 0, none⟩) (n + m) cap) (n + m) (cs ++ ds) := by
  refine ⟨ps ++ qs, by rw [List.map_append, hp1, hq1], by rw [List.length_append, hp2, hq2], by rw [show hcells (ps ++ qs) = hcells ps ++ hcells qs from List.flatMap_append]; exact hown, fun p hp => ?_⟩
  refine (cCmd 15).mono ((cCmd 15).stable (F := fun b => b < w.heap.size ∧ v.ownBlock ≠ some b) ?_ (Same.of_grown hg fun b e hF => hF.2 e) hg.size) fun b h => ⟨Nat.lt_of_lt_of_le h.1 hg.size, fun e => ?_⟩
  · rcases List.mem_append.1 hp with hp | hp
    · exact hp3 p hp
    · exact hq3 p hp
  · have e' : g = b := Option.some.inj e
    rcases hat with h1 | h1
    · exact h.2 (by rw [h1, e'])
    · have := h.1; omega
theorem wpList_cmds {ops : Array Oper} {rest : List Oper} {o : Oper} {a : Act} {Q : Exit → Act → World → Prop} {w : World} (hgd : o.guard = none) (s x : Operand) (ho : o.op = .call { callee := .builtin .append, args := #[s, x], argTypes := #[47, 47] })
    {B n m c g1 o1 N : Nat} {v : Value} {cs ds es : List Cmd} (hs : a.eval s = v) (h1 : CRow B w v n cs) (hB : B ≤ w.heap.size) (hx : a.eval x = .slice (some ⟨g1, o1, none⟩) m c) (h2 : SAt (cCmd 15) w (fun b => v.ownBlock ≠ some b) (.slice (some ⟨g1, o1, none⟩) m c) ds) (hm : 0 < m) (hnm : N ≤ 1000) (hN : n + m = N) (hes : cs ++ ds = es)
    (h : ∀ g cap w', CRow B w' (.slice (some ⟨g, 0, none⟩) N cap) N es → (∀ w0 : World, Below w0.heap.size w0 w → w0.heap.size ≤ B → Below w0.heap.size w0 w') → wpList Tryz.prog ops Q rest (a.put o.dst (.slice (some ⟨g, 0, none⟩) N cap)) w') : wpList Tryz.prog ops Q (o :: rest) a w := by
  subst hN hes
  obtain ⟨i0, hi, hz0, hz1, hz2⟩ := info_three info_cmd
  obtain ⟨ps, hp1, hp2, hp3, hp4⟩ := h1
  have h2' := SAt.bd (fun _ _ hr => cmd_bd 15 hr) h2
  have hml : ds.length = m := by obtain ⟨G, cap, e, -⟩ := h2.form; cases e; rfl
  obtain ⟨qs, hq1, hq2, hq3⟩ := SAt.held h2'
  have hql : qs.length = m := by rw [← hml, ← hq1, List.length_map]
  have hhl : (hcells qs).length = m * 12 := by rw [hcells_length (k := 12) (fun p hp => (cCmd 15).len (hq2 p hp)), hql]
  refine wpList_append_lies w hgd s x _ ho B 50 i0 _ 12 192 Tryz.underlying47 hi hz0 hz1 hz2 rfl (by omega) v n (hcells ps) hs hp3 ⟨g1, o1, none⟩ m c (hcells qs) hx hhl hq3 (cmd_cells hq2) hm (by unfold maxLen; omega) (by omega) hB w.heap.size rfl fun g cap w' hown hg hat hlt => ?_
  exact h g cap w' (crow_grown hp1 hp2 hp4 hq1 hql (fun p hp => (cCmd 15).mono (hq2 p hp) fun b hb => ⟨hb.2, hb.1⟩) hown hg hat) fun w0 hb0 h0 => below_row hb0 (Nat.le_refl _) hp3 h0 hg
theorem step_cmds {ops : Array Oper} {o : Oper} {a : Act} {K : Act → World → Prop} {Q : Exit → Act → World → Prop} {E : Prop} {w : World} (hgd : o.guard = none) (s x : Operand) (ho : o.op = .call { callee := .builtin .append, args := #[s, x], argTypes := #[47, 47] })
    {B n m c g1 o1 N : Nat} {v : Value} {cs ds es : List Cmd} (hs : a.eval s = v) (h1 : CRow B w v n cs) (hB : B ≤ w.heap.size) (hx : a.eval x = .slice (some ⟨g1, o1, none⟩) m c) (h2 : SAt (cCmd 15) w (fun b => v.ownBlock ≠ some b) (.slice (some ⟨g1, o1, none⟩) m c) ds) (hm : 0 < m) (hnm : N ≤ 1000) (hN : n + m = N) (hes : cs ++ ds = es)
    (h : ∀ g cap w', CRow B w' (.slice (some ⟨g, 0, none⟩) N cap) N es → (∀ w0 : World, Below w0.heap.size w0 w → w0.heap.size ≤ B → Below w0.heap.size w0 w') → w.grownBy w' v.ownBlock → K (a.put o.dst (.slice (some ⟨g, 0, none⟩) N cap)) w') : if Region.wanted o (yielded ops a.tmps) = true then Oper.wp Tryz.prog o a w K Q else E := by
  subst hN hes
  obtain ⟨i0, hi, hz0, hz1, hz2⟩ := info_three info_cmd
  obtain ⟨ps, hp1, hp2, hp3, hp4⟩ := h1
  have h2' := SAt.bd (fun _ _ hr => cmd_bd 15 hr) h2
  have hml : ds.length = m := by obtain ⟨G, cap, e, -⟩ := h2.form; cases e; rfl
  obtain ⟨qs, hq1, hq2, hq3⟩ := SAt.held h2'
  have hql : qs.length = m := by rw [← hml, ← hq1, List.length_map]
  have hhl : (hcells qs).length = m * 12 := by rw [hcells_length (k := 12) (fun p hp => (cCmd 15).len (hq2 p hp)), hql]
  refine step_append_lies w hgd s x _ ho B 50 i0 _ 12 192 Tryz.underlying47 hi hz0 hz1 hz2 rfl (by omega) v n (hcells ps) hs hp3 ⟨g1, o1, none⟩ m c (hcells qs) hx hhl hq3 (cmd_cells hq2) hm (by unfold maxLen; omega) (by omega) hB w.heap.size rfl fun g cap w' hown hg hat hlt => ?_
  exact h g cap w' (crow_grown hp1 hp2 hp4 hq1 hql (fun p hp => (cCmd 15).mono (hq2 p hp) fun b hb => ⟨hb.2, hb.1⟩) hown hg hat) (fun w0 hb0 h0 => below_row hb0 (Nat.le_refl _) hp3 h0 hg) hg
/-- a command without parts -/
def bareV (k : Int) : List Value := [.int .i64 k, .slice none 0 0, .int .i64 0, .int .i64 0, .int .i64 0, .slice none 0 0, .slice none 0 0, .bool false, .int .i64 0, .slice none 0 0, .slice none 0 0, .slice none 0 0]
theorem bare_rep (k : Int) (w : World) (F : Dom) : (cCmd 15).rep w F ⟨k, [], T0, [], []⟩ (bareV k) := cmd_le (by omega) (rep_text (k := k) (SAt.nil _ _ _) : (cCmd 1).rep w F ⟨k, [], T0, [], []⟩ (bareV k))
/-- a slice of commands that is not empty lies in a block -/
theorem sat_block {K : Nat} {w : World} {F : Dom} {G : Option Addr} {n c : Nat} {cs : List Cmd} (h : SAt (cCmd K) w F (.slice G n c) cs) (hn : 0 < n) : ∃ g off, G = some ⟨g, off, none⟩ := by
  obtain ⟨G', cap, e, -⟩ := id h.form
  have hl : cs.length = n := by cases e; rfl
  obtain ⟨g, off, _, hG, -⟩ := h.get 0 (by omega)
  exact ⟨g, off, hG⟩
end Go.Proofs.YtpfbkdbblpppdaaGreatDoor.Sc
namespace Go.Proofs.YtpfbkdbblpppdaaGreatDoor.Jd
open Go.RowKit
open Sc (Str Tst Cmd cStr strC tstC cTst cCmd RW Stk cStk scriptS ruleS FormC GoodC wC reqC T0 cmdS)

/-! plain -/
def CmdOk (c : Cmd) : Prop := FormC c ∧ GoodC c ∧ (∀ s ∈ c.texts, s.length ≤ 1000000) ∧ GoodJ c ∧ (wC c).length ≤ 2000
theorem req_ok : CmdOk reqC := ⟨Sc.req_form, Sc.reqC_good, Sc.reqC_small, req_goodJ, by decide⟩
theorem app_okk {a b : List Cmd} (h1 : ∀ c ∈ a, CmdOk c) (h2 : ∀ c ∈ b, CmdOk c) : ∀ c ∈ a ++ b, CmdOk c := fun c hc => (List.mem_append.1 hc).elim (h1 c) (h2 c)
/-! walks -/
theorem rule_ok (cs : List Cmd) (v : Value) (F : Dom) (m : Int) (V : World) (hcs : ∀ c ∈ cs, CmdOk c) (hl : cs.length ≤ 100) (hv : SAt (cCmd 15) V F v cs) (hW : RW V m) (V' : World) (hV : Below V.heap.size V V') :
    Calls Tryz.prog 33 #[v] V' (Sc.RulePost (ruleS cs) V') := by
  have ht : (cs.flatMap wC).length ≤ 1000000 := by
    have := Sc.flat_bound wC cs (B := 2000) fun c hc => (hcs c hc).2.2.2.2
    have : cs.length * 2000 ≤ 100 * 2000 := Nat.mul_le_mul_right _ hl
    omega
  exact Sc.rule_any 15 cs _ _ m V' (Sc.SAt.bd (fun _ _ hr => Sc.cmd_bd 15 hr) (hv.down hV)) (fun c hc => (hcs c hc).1) (fun c hc => (hcs c hc).2.1) (fun c hc => (hcs c hc).2.2.1) (fun b hb => hb.2) (hW.down hV) ht
theorem judge_list (cs : List Cmd) (v : Value) (F : Dom) (x : Ltt) (fs : List Fld) (body : Str) (m : Int) (V : World) (hcs : ∀ c ∈ cs, CmdOk c) (hl : cs.length ≤ 100) (h0 : ruleS cs = 0) (hv : SAt (cCmd 15) V F v cs) (hW : RW V m) (hx : LetOK x fs body) :
    Calls Tryz.prog 20 #[v, .agg (lttC x).toArray] V (JudgeP (cmdsJ x fs cs C0).1 V) := by
  refine judge_any 15 cs v F x fs body m V hv (fun c hc => (hcs c hc).2.2.2.1) (by omega) hW.names hW.max hx fun V' hV' => ?_
  have := rule_ok cs v F m V hcs hl hv hW V' hV'
  rw [h0] at this
  exact this
def JudgeBad (e0 : Int) (w : World) (e : Ending) (w' : World) : Prop := e = .returned (.tuple #[.agg #[.slice none 0 0, .int .i64 0, .bool false, .int .i64 0], .int .i64 e0]) ∧ Below w.heap.size w w'
set_option maxHeartbeats 2000000 in
set_option maxRecDepth 20000 in
theorem judge_bad (z : Int) (G : Option Addr) (n c : Nat) (x : Ltt) (w : World) (he : z ≠ 0) (hck : ∀ V, Below w.heap.size w V → Calls Tryz.prog 33 #[.slice G n c] V (Sc.RulePost z V)) :
    Calls Tryz.prog 20 #[.slice G n c, .agg (lttC x).toArray] w (JudgeBad z w) := by
  have hA1 := ba (Below.refl w.heap.size w) (.cells (lttC x).toArray 33)
  have hA2 := ba hA1 (.cells #[.slice none 0 0, .int .i64 0, .bool false, .int .i64 0] 53)
  have hB0 := Has.alloc (w.alloc (.cells (lttC x).toArray 33)) zeroC 53
  rw [World.size_alloc] at hB0
  have hq : (z == 0) = false := beq_eq_false_iff_ne.2 he
  have hd : decide (z = 0) = false := decide_eq_false he
  have HC := Lib.hid (hck _ hA2)
  have HB := Lib.hid hB0; have HA := Lib.hid hA2
  clear hck hA1 hA2 hB0 he
  unfold lttC at HC HB HA ⊢
  unfold zeroC at HB
  go_enter Tryz.func20, Tryz.ntmps20
  go_wp2_with fail
  refine HC.out.mono ?_
  rintro e w1 ⟨rfl, hb1⟩
  have hk := HB.out.down hb1
  obtain ⟨k0, k1, k2, k3⟩ := has_quad hk
  obtain ⟨f0, f1, f2, f3⟩ := has_quadf hk
  have hE := (((hk.set' (i := 0) (.slice none 0 0) (by simp)).set' (i := 1) (.int .i64 0) (by simp)).set' (i := 2) (.bool false) (by simp)).set' (i := 3) (.int .i64 0) (by simp)
  have HE := Lib.hid hE
  have HB1 := Lib.hid (bt HA.out hb1)
  clear hb1 hk hE HC HA
  go_wp2_with fail
  obtain ⟨e0, e1, e2, e3⟩ := has_quad HE.out
  refine bodyPost_ret (v := .tuple #[.agg #[.slice none 0 0, .int .i64 0, .bool false, .int .i64 0], .int .i64 z]) (by simp [results, Tryz.results20, go_sem, e0, e1, e2, e3]) rfl ?_
  exact ⟨rfl, put4_below HB1.out (Nat.le_succ _) _ _ _ _⟩
/-- what Judge answers, good or not -/
def JudgeQ (z : Int) (c : Crs) (w : World) (e : Ending) (w' : World) : Prop := ∃ G k, e = .returned (.tuple #[.agg #[.slice G c.acts.length k, .int .i64 c.flags, .bool c.asked, .int .i64 c.fault], .int .i64 z]) ∧ SAt cAct w' (fun b => b < w'.heap.size) (.slice G c.acts.length k) c.acts ∧ Below w.heap.size w w'
theorem JudgeP.q {c : Crs} {w w' : World} {e : Ending} (h : JudgeP c w e w') : JudgeQ 0 c w e w' := by
  obtain ⟨u, rfl, hr, hb⟩ := h
  obtain ⟨G, k, rfl⟩ := Sc.row_slice hr
  exact ⟨G, k, rfl, row_sat hr, hb⟩
theorem judge_q (cs : List Cmd) (v : Value) (F : Dom) (x : Ltt) (fs : List Fld) (body : Str) (m : Int) (V : World) (z : Int) (c : Crs) (hcs : ∀ c ∈ cs, CmdOk c) (hl : cs.length ≤ 100) (hz : ruleS cs = z) (hc : (z = 0 ∧ c = (cmdsJ x fs cs C0).1) ∨ (z ≠ 0 ∧ c = C0)) (hv : SAt (cCmd 15) V F v cs) (hW : RW V m) (hx : LetOK x fs body) :
    Calls Tryz.prog 20 #[v, .agg (lttC x).toArray] V (JudgeQ z c V) := by
  rcases hc with ⟨rfl, rfl⟩ | ⟨h0, rfl⟩
  · exact (judge_list cs v F x fs body m V hcs hl hz hv hW hx).mono fun _ _ h => h.q
  · obtain ⟨G, k, rfl, -⟩ := id hv.form
    refine (judge_bad z G cs.length k x V h0 fun V' hV' => by rw [← hz]; exact rule_ok cs _ F m V hcs hl hv hW V' hV').mono ?_
    rintro e w' ⟨rfl, hb⟩
    exact ⟨none, 0, rfl, SAt.nil _ _ _, hb⟩
theorem crsq_alloc {V : World} {c : Crs} {G : Option Addr} {k : Nat} (h : SAt cAct V (fun b => b < V.heap.size) (.slice G c.acts.length k) c.acts) (t : TypeId) : CrsAt (V.alloc (.cells #[.slice G c.acts.length k, .int .i64 c.flags, .bool c.asked, .int .i64 c.fault] t)) V.heap.size c := by
  have hb := ba (Below.refl V.heap.size V) (.cells #[.slice G c.acts.length k, .int .i64 c.flags, .bool c.asked, .int .i64 c.fault] t)
  exact ⟨G, k, Has.alloc V [.slice G c.acts.length k, .int .i64 c.flags, .bool c.asked, .int .i64 c.fault] t, (h.down hb).mono fun b h => Nat.lt_of_lt_of_le h hb.size⟩
end Go.Proofs.YtpfbkdbblpppdaaGreatDoor.Jd
