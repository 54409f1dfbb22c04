/- On the way. -/
import Derived.Test.YtpfbkdbblpppdaaGreatDoorEDvActs
import Derived.Test.YtpfbkdbblpppdaaGreatDoorEJdC
set_option linter.unusedVariables false
set_option linter.unusedSimpArgs false
namespace Go.Proofs.YtpfbkdbblpppdaaGreatDoor.Dv
open Go.RowKit
open Sc (Str Stk Cmd T0 reqC reqV strs ruleS cCmd cStr RW wC FormC GoodC)
open Jd (Ltt partL lttC Crs cmdJ cmdsJ endJ rdJ C0 LetOK CmdOk)
theorem endJ_len {c : Crs} (h : c.acts.length ≤ 6) : (endJ c).length ≤ 6 := by
 unfold endJ
 split
 ·show 1 ≤ 6; omega
 ·split
  ·show 1 ≤ 6; omega
  ·exact h
theorem deliver_list (s : St) (x : Ltt) (fs : List Fld) (body : Str) (cs : List Cmd) (C : Crs) (la : List Jd.Act) (xs : List Ent) (vB vS v : Value) (m : Int) (w : World) (F F' : Dom) (hB : SAt cBox w F vB s.boxes) (hS : SAt cEnt w F vS s.spool) (hg : GoodS s) (hW : RW w m) (hx : LetOK x fs body)
    (hcs : ∀ c ∈ cs, CmdOk c) (hl : cs.length ≤ 100) (h0 : ruleS cs = 0) (hC : C = (cmdsJ x fs cs C0).1) (hok : CrsOk C) (hla : endJ C = la) (hxs : planD x (s.boxes.map Bx.name) la = xs) (hD : DelOk x (s.boxes.map Bx.name)) (hv : SAt (cCmd 15) w F' v cs) :
    Calls Tryz.prog 27 #[.agg #[vB, vS], .agg (lttC x).toArray, v] w (DelR xs (allS s xs) w) := by
 obtain ⟨Gc, cc, rfl, -⟩ := id hv.form
 have hlen : C.acts.length ≤ 6 := by rw [hC]; exact Jd.cmdsJ_len x fs cs C0 (by unfold C0; decide)
 have hE := endJ_ok hok
 have := deliver_any s x C vB vS Gc cs.length cc m w F hB hS hg (fun V hV => by rw [hC]; exact Jd.judge_list cs _ F' x fs body m V hcs hl h0 (hv.down hV) (hW.down hV) hx) hlen hok.1 (fun a ha => (hE a ha).kinds) (endJ_len hlen)
  (fun e he => small_of_form ((planD_ok hD _ hE).1 e he).1) (by have := hx.ltt; exact this.1) hW.max
 rw [hla, hxs] at this
 exact this.mono fun _ _ h => h.r
def DelM (out : List Ent) (r : St × Int) (F : Dom) (w : World) (Go : Option Addr) (no co : Nat) (H1 : Option Addr) (n1 d1 : Nat) (H2 : Option Addr) (n2 d2 : Nat) : Prop :=
 (r.2 = 0 → no = out.length ∧ SAt cEnt w F (.slice Go no co) out ∧ SAt cBox w F (.slice H1 n1 d1) r.1.boxes ∧ SAt cEnt w F (.slice H2 n2 d2) r.1.spool) ∧ (r.2 ≠ 0 → no = 0 ∧ n1 = 0 ∧ n2 = 0)
section
variable {out : List Ent} {r : St × Int} {F F' : Dom} {w w' : World} {Go H1 H2 : Option Addr} {no co n1 d1 n2 d2 : Nat}
theorem DelM.of (h1 : r.2 = 0 → no = out.length ∧ SAt cEnt w F (.slice Go no co) out ∧ SAt cBox w F (.slice H1 n1 d1) r.1.boxes ∧ SAt cEnt w F (.slice H2 n2 d2) r.1.spool) (h2 : r.2 ≠ 0 → no = 0 ∧ n1 = 0 ∧ n2 = 0) : DelM out r F w Go no co H1 n1 d1 H2 n2 d2 := ⟨h1, h2⟩
theorem DelM.down (h : DelM out r F w Go no co H1 n1 d1 H2 n2 d2) (hb : Below w.heap.size w w') : DelM out r F w' Go no co H1 n1 d1 H2 n2 d2 :=
 ⟨fun e => ⟨(h.1 e).1, (h.1 e).2.1.down hb, (h.1 e).2.2.1.down hb, (h.1 e).2.2.2.down hb⟩, h.2⟩
theorem DelM.mono (h : DelM out r F w Go no co H1 n1 d1 H2 n2 d2) (hF : ∀ b, F b → F' b) : DelM out r F' w Go no co H1 n1 d1 H2 n2 d2 :=
 ⟨fun e => ⟨(h.1 e).1, (h.1 e).2.1.mono hF, (h.1 e).2.2.1.mono hF, (h.1 e).2.2.2.mono hF⟩, h.2⟩
theorem DelM.bd (h : DelM out r F w Go no co H1 n1 d1 H2 n2 d2) : DelM out r (fun b => F b ∧ b < w.heap.size) w Go no co H1 n1 d1 H2 n2 d2 :=
 ⟨fun e => ⟨(h.1 e).1, flat_bd (h.1 e).2.1, box_bd (h.1 e).2.2.1, flat_bd (h.1 e).2.2.2⟩, h.2⟩
theorem DelM.set {T i : Nat} (u : Value) (h : DelM out r (fun b => b ≠ T) w Go no co H1 n1 d1 H2 n2 d2) : DelM out r (fun b => b ≠ T) (w.setCell ⟨T, i, none⟩ u) Go no co H1 n1 d1 H2 n2 d2 :=
 have hs : Same (fun b => b ≠ T) w (w.setCell ⟨T, i, none⟩ u) := fun b hb _ => Below.heap_setCell _ _ _ _ hb
 have hz : w.heap.size ≤ (w.setCell ⟨T, i, none⟩ u).heap.size := by simp [World.setCell]
 ⟨fun e => ⟨(h.1 e).1, (h.1 e).2.1.stable hs hz, (h.1 e).2.2.1.stable hs hz, (h.1 e).2.2.2.stable hs hz⟩, h.2⟩
theorem DelM.put {T : Nat} {a b : Value} (h : DelM out r (fun b => b ≠ T) w Go no co H1 n1 d1 H2 n2 d2) : DelM out r (fun b => b ≠ T) ((w.setCell ⟨T, 0, none⟩ a).setCell ⟨T, 1, none⟩ b) Go no co H1 n1 d1 H2 n2 d2 := (h.set a).set b
end
theorem off_box {w : World} {T i : Nat} {u v : Value} {l : List Bx} (h : SAt cBox w (fun b => b ≠ T) v l) : SAt cBox (w.setCell ⟨T, i, none⟩ u) (fun b => b ≠ T) v l := h.stable (fun b hb _ => Below.heap_setCell _ _ _ _ hb) (by simp [World.setCell])
theorem off_ent {w : World} {T i : Nat} {u v : Value} {l : List Ent} (h : SAt cEnt w (fun b => b ≠ T) v l) : SAt cEnt (w.setCell ⟨T, i, none⟩ u) (fun b => b ≠ T) v l := h.stable (fun b hb _ => Below.heap_setCell _ _ _ _ hb) (by simp [World.setCell])
theorem word_name (l : List UInt8) : nameCode (wordL l) = 0 := by
 have h1 := wordL_pos l
 have h2 := wordL_le l
 unfold nameCode
 rw [if_neg (by omega), if_pos]
 rw [List.all_eq_true]
 intro c hc
 unfold wordL at hc
 split at hc
 ·rw [List.mem_singleton] at hc; subst hc; decide
 ·obtain ⟨d, -, rfl⟩ := List.mem_map.1 hc
  have := lowB_nat d
  exact nameByte_yes _ (by omega) (by omega)
end Go.Proofs.YtpfbkdbblpppdaaGreatDoor.Dv
