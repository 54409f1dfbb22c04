/- On the way. -/
import Derived.Test.YtjfclekmhfgkmaaGreatDoorRScStk
import Derived.Test.YtjfclekmhfgkmaaGreatDoorRScMem
import Derived.Test.YtjfclekmhfgkmaaGreatDoorROpen
import Derived.Deep.Slices
import Derived.Deep.Fields
import Derived.ChangeSame
import Derived.SizedLaws
set_option linter.unusedVariables false
set_option linter.unusedSimpArgs false
set_option maxRecDepth 20000
namespace Go.Proofs.YtjfclekmhfgkmaaGreatDoor.Sc
open Go Go.Joins Go.Deep Go.ChangeShapes Go.WideShapes Go.RowKit
def stkC (x : Stk) (v : Value) : List Value := [.int .i64 x.kind, .int .i64 x.a, .int .i64 x.b, .string ⟨x.s.toArray⟩, .string ⟨x.t.toArray⟩, v]
structure Bd (x : Stk) : Prop where
 k : -9223372036854775808 ≤ x.kind ∧ x.kind ≤ 9223372036854775807
 a : -9223372036854775808 ≤ x.a ∧ x.a ≤ 9223372036854775807
 b : -9223372036854775808 ≤ x.b ∧ x.b ≤ 9223372036854775807
 s : x.s.length ≤ 9223372036854775807
 t : x.t.length ≤ 9223372036854775807
 n : x.subs.length ≤ 140737488351232
def stepS (r : RepK 6 Stk) : RepK 6 Stk where
 rep := fun w F x vs => (∃ v, vs = stkC x v ∧ SAt r.cod w F v x.subs) ∧ Bd x
 len := fun ⟨⟨_, h, _⟩, _⟩ => by rw [h]; rfl
 stable := fun ⟨⟨v, h, h1⟩, hb⟩ hs hz => ⟨⟨v, h, h1.stable hs hz⟩, hb⟩
 mono := fun ⟨⟨v, h, h1⟩, hb⟩ hF => ⟨⟨v, h, h1.mono hF⟩, hb⟩
def rStk : Nat → RepK 6 Stk
 | 0 => RepK.none 6 Stk
 | n + 1 => stepS (rStk n)
def cStk (n : Nat) : Cod Stk := (rStk n).cod
theorem stk_up : ∀ (n : Nat) {w : World} {F : Dom} {x : Stk} {vs : List Value}, (cStk n).rep w F x vs → (cStk (n + 1)).rep w F x vs
 | 0, _, _, _, _, h => h.elim
 | n + 1, _, _, _, _, ⟨⟨v, h, h1⟩, hb⟩ => ⟨⟨v, h, SAt.weaker h1 rfl fun _ _ hr => stk_up n hr⟩, hb⟩
theorem stk_le {n m : Nat} (hm : n ≤ m) {w : World} {F : Dom} {x : Stk} {vs : List Value} (h : (cStk n).rep w F x vs) : (cStk m).rep w F x vs := by
 induction hm with
 | refl => exact h
 | step _ ih => exact stk_up _ ih
theorem stk_open {n : Nat} {w : World} {F : Dom} {x : Stk} {vs : List Value} (h : (cStk n).rep w F x vs) : ∃ m G c, n = m + 1 ∧ vs = stkC x (.slice G x.subs.length c) ∧ SAt (cStk m) w F (.slice G x.subs.length c) x.subs ∧ x.subs.length ≤ c ∧ Bd x := by
 cases n with
 | zero => exact h.elim
 | succ m =>
  obtain ⟨⟨v, hv, h1⟩, hb⟩ := h
  obtain ⟨G, c, rfl, hc⟩ := h1.form
  exact ⟨m, G, c, rfl, hv, h1, hc, hb⟩
theorem stk_get {n : Nat} {w wr : World} {F : Dom} {G : Option Addr} {len cap : Nat} {l : List Stk} (h : SAt (cStk n) w F (.slice G len cap) l) (hs : Same F w wr) (hz : w.heap.size ≤ wr.heap.size) (j : Nat) (hj : j < l.length) :
    ∃ g off G' c', G = some ⟨g, off, none⟩ ∧ (cStk n).rep wr F l[j] (stkC l[j] (.slice G' l[j].subs.length c')) ∧ wr.cell? ⟨g, off + j * 6, none⟩ = some (.int .i64 l[j].kind) ∧ wr.cell? ⟨g, off + j * 6 + 1, none⟩ = some (.int .i64 l[j].a) ∧ wr.cell? ⟨g, off + j * 6 + 2, none⟩ = some (.int .i64 l[j].b) ∧
     wr.cell? ⟨g, off + j * 6 + 3, none⟩ = some (.string ⟨l[j].s.toArray⟩) ∧ wr.cell? ⟨g, off + j * 6 + 4, none⟩ = some (.string ⟨l[j].t.toArray⟩) ∧ wr.cell? ⟨g, off + j * 6 + 5, none⟩ = some (.slice G' l[j].subs.length c') := by
 obtain ⟨g, off, vs, hG, hF, hg, hv, hc⟩ := (h.stable hs hz).get j hj
 obtain ⟨_, G', c', -, rfl, -⟩ := stk_open hv
 exact ⟨g, off, G', c', hG, hv, hc 0 _ rfl, hc 1 _ rfl, hc 2 _ rfl, hc 3 _ rfl, hc 4 _ rfl, hc 5 _ rfl⟩
section
variable {H : Type} {enc : TypeId × Value → H} {w : World} {base : Nat} {spare : Nat → Bool} {held : Bool}
theorem stk_int {n : Nat} {v : Value} {y : DataW H × List MemPlace} (h : DataW.trod enc Tryz.prog w base spare held n 3 [v] = some y) : ∃ z : Int, v = .int .i64 z ∧ (-9223372036854775808 ≤ z ∧ z ≤ 9223372036854775807) := by
 obtain ⟨z, hz, _, hw⟩ := DataW.trod_int Tryz.underlying3 h
 exact ⟨z, by simpa using hz, wf_bd hw⟩
theorem weights_all {P : Program} {e : TypeId} : ∀ {l : List (DataW H)} {d : DataW H}, d ∈ l → ∀ n ∈ d.weights P e, n ∈ DataW.weightsAll P e l
 | a :: l, d, hd, n, hn => by
  rw [DataW.weightsAll, List.mem_append]
  rcases List.mem_cons.1 hd with rfl | hd
  ·exact .inl hn
  ·exact .inr (weights_all hd n hn)
theorem stk_choose {F : Dom} {cells : Nat → List Value} : ∀ k : Nat, (∀ i, i < k → ∃ n s, (cStk n).rep w F s (cells i)) → ∃ (N : Nat) (l : List Stk), l.length = k ∧ ∀ i s, l[i]? = some s → (cStk N).rep w F s (cells i)
 | 0, _ => ⟨0, [], rfl, fun i s h => by simp at h⟩
 | k + 1, h => by
  obtain ⟨N, l, hl, hr⟩ := stk_choose k fun i hi => h i (by omega)
  obtain ⟨n, s, hs⟩ := h k (by omega)
  refine ⟨max N n, l ++ [s], by rw [List.length_append, hl]; rfl, fun i x hx => ?_⟩
  rcases Nat.lt_or_ge i k with h0 | h0
  ·rw [List.getElem?_append_left (by omega)] at hx
   exact stk_le (by omega) (hr i x hx)
  ·have hik : i = k := by have := (List.getElem?_eq_some_iff.1 hx).1; rw [List.length_append, hl] at this; simp at this; omega
   subst hik
   rw [List.getElem?_append_right (by omega), hl, Nat.sub_self] at hx
   obtain rfl : s = x := Option.some.inj hx
   exact stk_le (by omega) hs
theorem stk_both : ∀ fuel : Nat, (∀ (cs : List Value) (x : DataW H × List MemPlace), DataW.trod enc Tryz.prog w base spare held fuel 72 cs = some x → (∀ n ∈ x.1.weights Tryz.prog 72, n ≤ reachBytes) → ∃ n s, (cStk n).rep w (fun _ => True) s cs) ∧
    (∀ (v : Value) (x : DataW H × List MemPlace), DataW.trod enc Tryz.prog w base spare held fuel 22 [v] = some x → (∀ n ∈ x.1.weights Tryz.prog 22, n ≤ reachBytes) → ∃ (n : Nat) (l : List Stk), SAt (cStk n) w (fun _ => True) v l ∧ l.length ≤ 140737488351232)
 | 0 => ⟨fun cs x h => by simp [DataW.trod] at h, fun v x h => by simp [DataW.trod] at h⟩
 | fuel + 1 => by
  have ihA := (stk_both fuel).1
  have ihB := (stk_both fuel).2
  have ci : Tryz.prog.cellsOf 3 = 1 := by kernel_rfl
  have cs' : Tryz.prog.cellsOf 9 = 1 := by kernel_rfl
  have cl : Tryz.prog.cellsOf 22 = 1 := by kernel_rfl
  have ck : Tryz.prog.cellsOf 72 = 6 := by kernel_rfl
  refine ⟨fun cs x h hw => ?_, fun v x h hw => ?_⟩
  ·obtain ⟨xs, n, hn, rfl, hcl, hxl, hf⟩ := DataW.trod_struct Tryz.underlying72 h
   obtain rfl : fuel = n := by omega
   rw [ck] at hcl
   match cs, hcl with
   | [v0, v1, v2, v3, v4, v5], _ =>
    have hx6 : xs.length = 6 := hxl
    match xs, hx6 with
    | [y0, y1, y2, y3, y4, y5], _ =>
     have h0 : DataW.trod enc Tryz.prog w base spare held fuel 3 (([v0, v1, v2, v3, v4, v5].drop 0).take (Tryz.prog.cellsOf 3)) = some y0 := hf 0 _ rfl
     rw [ci] at h0
     have h1 : DataW.trod enc Tryz.prog w base spare held fuel 3 (([v0, v1, v2, v3, v4, v5].drop 1).take (Tryz.prog.cellsOf 3)) = some y1 := hf 1 _ rfl
     rw [ci] at h1
     have h2 : DataW.trod enc Tryz.prog w base spare held fuel 3 (([v0, v1, v2, v3, v4, v5].drop 2).take (Tryz.prog.cellsOf 3)) = some y2 := hf 2 _ rfl
     rw [ci] at h2
     have h3 : DataW.trod enc Tryz.prog w base spare held fuel 9 (([v0, v1, v2, v3, v4, v5].drop 3).take (Tryz.prog.cellsOf 9)) = some y3 := hf 3 _ rfl
     rw [cs'] at h3
     have h4 : DataW.trod enc Tryz.prog w base spare held fuel 9 (([v0, v1, v2, v3, v4, v5].drop 4).take (Tryz.prog.cellsOf 9)) = some y4 := hf 4 _ rfl
     rw [cs'] at h4
     have h5 : DataW.trod enc Tryz.prog w base spare held fuel 22 (([v0, v1, v2, v3, v4, v5].drop 5).take (Tryz.prog.cellsOf 22)) = some y5 := hf 5 _ rfl
     rw [cl] at h5
     obtain ⟨z0, rfl, b0⟩ := stk_int (v := v0) (y := y0) h0
     obtain ⟨z1, rfl, b1⟩ := stk_int (v := v1) (y := y1) h1
     obtain ⟨z2, rfl, b2⟩ := stk_int (v := v2) (y := y2) h2
     obtain ⟨s3, e3, w3⟩ := str_of_trod (y := y3) Tryz.underlying9 h3
     obtain ⟨s4, e4, w4⟩ := str_of_trod (y := y4) Tryz.underlying9 h4
     have e3' : v3 = .string s3 := e3; have e4' : v4 = .string s4 := e4
     subst e3' e4'
     have hw5 : ∀ n ∈ y5.1.weights Tryz.prog 22, n ≤ reachBytes := fun m hm => by
      refine hw m ?_
      simp only [DataW.weights, Tryz.underlying72]
      exact DataW.weights_mem_each (j := 5) rfl rfl m hm
     obtain ⟨m, l, hl, hll⟩ := ihB v5 y5 h5 hw5
     refine ⟨m + 1, ⟨z0, z1, z2, s3.data.toList, s4.data.toList, l⟩, ⟨v5, ?_, hl⟩, b0, b1, b2, ?_, ?_, hll⟩
     ·show _ = [_, _, _, Value.string ⟨s3.data.toList.toArray⟩, Value.string ⟨s4.data.toList.toArray⟩, _]
      rw [Lib.mk_data, Lib.mk_data]
     ·unfold maxLen at w3; simpa using w3
     ·unfold maxLen at w4; simpa using w4
  ·rcases DataW.trod_slice Tryz.underlying22 h with ⟨hcs, -⟩ | ⟨a, len, cap, elems, rest, n, hn, hcs, rfl, hb, hl, hm, hlen, hel, -, -⟩
   ·obtain rfl : v = .slice none 0 0 := by simpa using hcs
    exact ⟨0, [], SAt.nil _ _ _, Nat.zero_le _⟩
   ·obtain rfl : fuel = n := by omega
    obtain rfl : v = .slice (some a) len cap := by simpa using hcs
    rw [ck] at hel
    have hbytes : Tryz.prog.bytesOf 72 = 80 := by kernel_rfl
    have hwl : len * 80 ≤ reachBytes := by
     have := hw ((elems.length + rest.length) * 80) (by simp only [DataW.weights, Tryz.underlying22, List.length_map, hbytes]; exact List.mem_cons_self ..)
     rw [hlen] at this
     exact Nat.le_trans (Nat.mul_le_mul_right _ (Nat.le_add_right _ _)) this
    have key : ∀ i, i < len → ∃ cs', w.cells? base (a.add (i * 6)) 6 = some cs' ∧ ∃ n s, (cStk n).rep w (fun _ => True) s cs' := by
     intro i hi
     have h1 := hel i hi
     rw [List.getElem?_eq_getElem (by omega : i < elems.length)] at h1
     obtain ⟨cs', hc, ht⟩ := Option.bind_eq_some_iff.1 h1
     refine ⟨cs', hc, ihA cs' _ ht fun m hm => hw m ?_⟩
     simp only [DataW.weights, Tryz.underlying22]
     exact List.mem_cons_of_mem _ (List.mem_append_left _ (weights_all (List.mem_map_of_mem (List.getElem_mem (by omega : i < elems.length))) m hm))
    obtain ⟨N, l, hll, hr⟩ := stk_choose (w := w) (F := fun _ => True) (cells := fun i => ((w.cells? base (a.add (i * 6)) 6).getD [])) len fun i hi => by
     obtain ⟨cs', hc, n, s, hs⟩ := key i hi
     exact ⟨n, s, by rw [hc]; exact hs⟩
    refine ⟨N, l, ⟨some a, cap, by rw [hll], by rw [hll]; exact hl, fun i s hi => ?_⟩, by rw [hll]; have h2 : reachBytes = 140737488351232 := rfl; omega⟩
    have hil : i < len := by have := (List.getElem?_eq_some_iff.1 hi).1; omega
    obtain ⟨cs', hc, -⟩ := key i hil
    have hrep := hr i s hi
    simp only [hc, Option.getD_some] at hrep
    obtain ⟨_, hcl, hcat⟩ := World.cells?_some hc
    obtain ⟨b, off, spot⟩ := a
    have hspot : spot = none := by
     obtain ⟨cs0, hc0, -⟩ := key 0 (by omega)
     obtain ⟨_, hcl0, hcat0⟩ := World.cells?_some hc0
     have q0 := hcat0 0 (by omega)
     rw [List.getElem?_eq_getElem (by omega : 0 < cs0.length)] at q0
     simpa [Addr.add] using World.cell?_spot q0
    subst hspot
    have q : ∀ j, j < 6 → w.cell? ⟨b, off + i * 6 + j, none⟩ = cs'[j]? := by
     intro j hj
     have := hcat j hj
     rwa [Addr.add_lit, Addr.add_lit] at this
    refine ⟨b, off, rfl, trivial, ?_, cs', hrep, fun j u hu => ?_⟩
    ·have := q 0 (by omega)
     rw [List.getElem?_eq_getElem (by omega : 0 < cs'.length)] at this
     exact World.block_lt_of_cell? w ⟨b, off + i * 6 + 0, none⟩ this
    ·have hj : j < 6 := by have := (List.getElem?_eq_some_iff.1 hu).1; omega
     exact (q j hj).trans hu
theorem sticks_open {a : Option Addr} {len cap : Nat} {d : DataW H} {p : List MemPlace} {ts : List TypeId} {ds : List (DataW H)} {j : Nat} (hsz : (DataW.weightsEach Tryz.prog ts ds).all (· ≤ reachBytes) = true) (htj : ts[j]? = some 22) (hdj : ds[j]? = some d) (h : DataW.Trod enc Tryz.prog w base spare held 22 (.slice a len cap) d p) :
    ∃ (n : Nat) (l : List Stk), SAt (cStk n) w (fun _ => True) (.slice a len cap) l ∧ l.length ≤ 140737488351232 := by
 obtain ⟨fuel, hf⟩ := h
 exact (stk_both fuel).2 _ _ hf fun n hn => by simpa using List.all_eq_true.1 hsz n (DataW.weights_mem_each htj hdj n hn)
end
end Go.Proofs.YtjfclekmhfgkmaaGreatDoor.Sc
