/-
  DERIVED. Merged of: TkLaid, ScriptTags.
-/
import Derived.Test.YtlgbmnmoobpkkaaDoorRows
import Derived.Test.YtlgbmnmoobpkkaaDoorBase
import Derived.Test.YtlgbmnmoobpkkaaDoorTkShelf
import Derived.Lib.LaidTab
import Derived.Stop.LaidErr
import Derived.LaidLaws
import Derived.Test.YtlgbmnmoobpkkaaDoorRdH
import Derived.Test.YtlgbmnmoobpkkaaDoorRdF
import Derived.Test.YtlgbmnmoobpkkaaDoorScStkMem
import Derived.Test.YtlgbmnmoobpkkaaDoorScLaid
import Derived.Test.YtlgbmnmoobpkkaaDoorTkA
namespace Go.Proofs.YtlgbmnmoobpkkaaDoor.Tk

theorem tabMet {rest : List (String × DataW Unit)} {W : World} (h : laidMet Tryd.prog (("internal/strconv.uint64pow10", Rows.laid_internal_strconv_uint64pow10) :: rest) W) : Lib.TabIs Tryd.prog W "internal/strconv.uint64pow10" .u64 Lib.pow10Tab :=
  Lib.tabIs_of_head (g := 7) (t := 145) (e := 127) (n := 20) (rest := rest) (by kernel_rfl) (by kernel_rfl) Tryd.underlying145 Tryd.underlying127 (by kernel_rfl) (by kernel_rfl) h
theorem errMet {n nm : String} {d : DataW Unit} {rest : List (String × DataW Unit)} {W : World} (h : laidMet Tryd.prog ((n, .iface nm d) :: rest) W) (hg : Tryd.prog.globalNamed n = some 6) : ∃ te pe, W.cell? ⟨6, 0, none⟩ = some (.iface te pe) := by
  obtain ⟨ps, ⟨g0, t0, cs0, f0, p0, q0, hg0, ht0, hv0, hd0, _, e0⟩, _, hrows⟩ := h
  obtain rfl := Option.some.inj (hg.symm.trans hg0)
  obtain rfl := Option.some.inj ((show (Tryd.prog.globals[6]?).map (·.type) = some 108 by kernel_rfl).symm.trans ht0)
  obtain ⟨l0⟩ := cs0
  obtain ⟨f, u, v, hl, _, _⟩ := iface_of_trod Tryd.underlying108 hd0
  have h0 := World.var?_cell hg hv0 0
  refine ⟨u, v, h0.trans ?_⟩
  have : l0 = [.iface u v] := hl
  subst this
  rfl
end Go.Proofs.YtlgbmnmoobpkkaaDoor.Tk
namespace Go.Proofs.YtlgbmnmoobpkkaaDoor.Sc
open Go.RowKit
open Tk (Tok)

def tgM (i : Nat) : Str := [[105, 115], [99, 111, 110, 116, 97, 105, 110, 115], [109, 97, 116, 99, 104, 101, 115]].getD i []
def tgP (i : Nat) : Str := [[97, 108, 108], [108, 111, 99, 97, 108, 112, 97, 114, 116], [100, 111, 109, 97, 105, 110]].getD i []
def tgS (t : Str) : Str := [105, 102, 32, 97, 100, 100, 114, 101, 115, 115, 32] ++ (t ++ [32, 34, 97, 34, 32, 34, 98, 34, 32, 123, 32, 125])
def tgT (t : Str) : List Tok := (Tk.cutL (tgS t)).1
def tgC (i j : Nat) : Cmd := ⟨2, [], ⟨7, (i : Int) + 1, (j : Int) + 1, [[97]], [[98]], false, 0, []⟩, [], []⟩
def two (a b : Str) : Str := 58 :: (a ++ 32 :: 58 :: b)
theorem tags_mp : ∀ (i j : Nat), i < 3 → j < 3 → wholeS (tgT (two (tgM i) (tgP j))) = ([tgC i j], 0, 0)
  | 0, 0, _, _ => by kernel_rfl
  | 0, 1, _, _ => by kernel_rfl
  | 0, 2, _, _ => by kernel_rfl
  | 1, 0, _, _ => by kernel_rfl
  | 1, 1, _, _ => by kernel_rfl
  | 1, 2, _, _ => by kernel_rfl
  | 2, 0, _, _ => by kernel_rfl
  | 2, 1, _, _ => by kernel_rfl
  | 2, 2, _, _ => by kernel_rfl
  | i + 3, _, h, _ => absurd h (by omega)
  | 0, j + 3, _, h => absurd h (by omega)
  | 1, j + 3, _, h => absurd h (by omega)
  | 2, j + 3, _, h => absurd h (by omega)
theorem tags_pm : ∀ (i j : Nat), i < 3 → j < 3 → wholeS (tgT (two (tgP j) (tgM i))) = ([tgC i j], 0, 0)
  | 0, 0, _, _ => by kernel_rfl
  | 0, 1, _, _ => by kernel_rfl
  | 0, 2, _, _ => by kernel_rfl
  | 1, 0, _, _ => by kernel_rfl
  | 1, 1, _, _ => by kernel_rfl
  | 1, 2, _, _ => by kernel_rfl
  | 2, 0, _, _ => by kernel_rfl
  | 2, 1, _, _ => by kernel_rfl
  | 2, 2, _, _ => by kernel_rfl
  | i + 3, _, h, _ => absurd h (by omega)
  | 0, j + 3, _, h => absurd h (by omega)
  | 1, j + 3, _, h => absurd h (by omega)
  | 2, j + 3, _, h => absurd h (by omega)
theorem tags_mm : ∀ i : Nat, i < 3 → wholeS (tgT (two (tgM i) (tgM i))) = ([], 3, 3)
  | 0, _ => by kernel_rfl
  | 1, _ => by kernel_rfl
  | 2, _ => by kernel_rfl
  | i + 3, h => absurd h (by omega)
theorem tags_no : wholeS (tgT []) = ([tgC 0 0], 0, 0) := by kernel_rfl
theorem tags_dfl : wholeS (tgT [58, 97, 108, 108, 32, 58, 105, 115]) = ([tgC 0 0], 0, 0) := by kernel_rfl
theorem tgM_len : ∀ i : Nat, i < 3 → (tgM i).length ≤ 9
  | 0, _ => by decide
  | 1, _ => by decide
  | 2, _ => by decide
  | i + 3, h => absurd h (by omega)
theorem tgP_len : ∀ i : Nat, i < 3 → (tgP i).length ≤ 9
  | 0, _ => by decide
  | 1, _ => by decide
  | 2, _ => by decide
  | i + 3, h => absurd h (by omega)
theorem tgC_form (i j : Nat) (hi : i < 3) (hj : j < 3) : ∀ c ∈ [tgC i j], FormC c := by
  intro c hc
  rw [List.mem_singleton] at hc; subst hc
  refine (FormC.iff _).2 ⟨by unfold Form2 tgC; simp, .inl ⟨rfl, FormT.mk' ?_ (fun s hs => by cases hs), (fun x hx => by cases hx), (fun x hx => by cases hx)⟩⟩
  unfold Form1 tgC
  simp; omega
/-- tokens whose words are short -/
def Few (l : List Tok) : Prop := ∀ t ∈ l, t.kind = 1 ∨ t.kind = 2 → t.text.length ≤ 4611686018427387904
def fewB (l : List Tok) : Bool := l.all fun t => decide (t.text.length ≤ 100)
theorem few_of {l : List Tok} (h : fewB l = true) : Few l := fun t ht _ => by
  have := of_decide_eq_true (List.all_eq_true.1 h t ht); omega
theorem few_mp : ∀ (i j : Nat), i < 3 → j < 3 → fewB (tgT (two (tgM i) (tgP j))) = true
  | 0, 0, _, _ => by kernel_rfl
  | 0, 1, _, _ => by kernel_rfl
  | 0, 2, _, _ => by kernel_rfl
  | 1, 0, _, _ => by kernel_rfl
  | 1, 1, _, _ => by kernel_rfl
  | 1, 2, _, _ => by kernel_rfl
  | 2, 0, _, _ => by kernel_rfl
  | 2, 1, _, _ => by kernel_rfl
  | 2, 2, _, _ => by kernel_rfl
  | i + 3, _, h, _ => absurd h (by omega)
  | 0, j + 3, _, h => absurd h (by omega)
  | 1, j + 3, _, h => absurd h (by omega)
  | 2, j + 3, _, h => absurd h (by omega)
theorem few_pm : ∀ (i j : Nat), i < 3 → j < 3 → fewB (tgT (two (tgP j) (tgM i))) = true
  | 0, 0, _, _ => by kernel_rfl
  | 0, 1, _, _ => by kernel_rfl
  | 0, 2, _, _ => by kernel_rfl
  | 1, 0, _, _ => by kernel_rfl
  | 1, 1, _, _ => by kernel_rfl
  | 1, 2, _, _ => by kernel_rfl
  | 2, 0, _, _ => by kernel_rfl
  | 2, 1, _, _ => by kernel_rfl
  | 2, 2, _, _ => by kernel_rfl
  | i + 3, _, h, _ => absurd h (by omega)
  | 0, j + 3, _, h => absurd h (by omega)
  | 1, j + 3, _, h => absurd h (by omega)
  | 2, j + 3, _, h => absurd h (by omega)
theorem few_mm : ∀ i : Nat, i < 3 → fewB (tgT (two (tgM i) (tgM i))) = true
  | 0, _ => by kernel_rfl
  | 1, _ => by kernel_rfl
  | 2, _ => by kernel_rfl
  | i + 3, h => absurd h (by omega)
theorem few_no : fewB (tgT []) = true := by kernel_rfl
theorem few_dfl : fewB (tgT [58, 97, 108, 108, 32, 58, 105, 115]) = true := by kernel_rfl

theorem wp_tags {P : Program} {c : Code} {Q : Exit → Act → World → Prop} {a : Act} {W : World} (R : World → Prop) (hR : R W) (h : ∀ W, R W → c.wp P Q a W) : c.wp P Q a W := h W hR
/-- what the closure answers -/
def TextP (t : Str) (w : World) (e : Ending) (w' : World) : Prop := ∃ v, e = .returned v ∧ SAt cTok w' (fun b => b < w'.heap.size) v (tgT t) ∧ Below w.heap.size w w'
set_option maxHeartbeats 4000000 in
set_option maxRecDepth 20000 in
theorem text_any (t : ByteArray) (T : Str) (mx : Int) (te : TypeId) (pe : Value) (w : World) (hT : t.data.toList = T) (ht : t.size ≤ 50) (hm : w.cell? ⟨4, 0, none⟩ = some (.int .i64 mx)) (hev : w.cell? ⟨6, 0, none⟩ = some (.iface te pe)) :
    Calls Tryd.prog 11 #[.string t] w (TextP T w) := by
  obtain ⟨S, hS⟩ : ∃ S : ByteArray, S = ((⟨#[105, 102, 32, 97, 100, 100, 114, 101, 115, 115, 32]⟩ : ByteArray) ++ t) ++ ⟨#[32, 34, 97, 34, 32, 34, 98, 34, 32, 123, 32, 125]⟩ := ⟨_, rfl⟩
  have hSl : S.data.toList = tgS T := by rw [hS, ← hT]; unfold tgS; simp
  have hsz : S.size ≤ 100000 := by
    have h1 : S.size = S.data.toList.length := by simp
    rw [h1, hSl]
    unfold tgS
    have h2 : T.length = t.size := by rw [← hT]; simp
    simp only [List.length_append, List.length_cons, List.length_nil]; omega
  have HC : Hid (Calls Tryd.prog 12 #[.string S] w (Tk.CutPost (Tk.cutL (tgS T)) w)) := by rw [← hSl]; exact Tk.cut_any S mx te pe w hsz hm hev
  rw [hS] at HC
  have HT : Hid (Tk.cutL (tgS T) = Tk.cutL (tgS T)) := rfl
  obtain ⟨R, hR⟩ : ∃ R, R = Tk.cutL (tgS T) := ⟨_, rfl⟩
  have HR : Hid (tgT T = R.1) := by unfold Hid tgT; rw [hR]
  rw [← hR] at HC
  clear hR HT hSl hsz hS hT hm hev
  go_enter Tryd.func11, Tryd.ntmps11
  go_wp2_with fail
  refine HC.out.mono ?_
  rintro e w1 ⟨⟨v, rfl, hs⟩, hb⟩
  have HS := Lib.hid hs; have HB := Lib.hid hb
  clear hs hb HC
  go_wp2_with fail
  go_ret
  refine ⟨_, rfl, ?_, HB.out⟩
  rw [HR.out]
  have h0 : SAt cTok w1 (fun b => w.heap.size ≤ b) v R.1 := HS.out
  exact (SAt.bd (fun _ _ hr => hr) h0).mono (fun _ hb => hb.2)

set_option maxHeartbeats 8000000 in
set_option maxRecDepth 20000 in
theorem scriptTags_any (x : Stk) (v : Value) (mx : Int) (w : World) (hbd : Bd x) (htab : Tabs w w.heap.size) (hm : w.cell? ⟨4, 0, none⟩ = some (.int .i64 mx)) (hev : ∃ te pe, w.cell? ⟨6, 0, none⟩ = some (.iface te pe)) :
    Calls Tryd.prog 5 #[.agg (stkC x v).toArray] w fun e w' => e = .returned (.bool true) ∧ Below w.heap.size w w' := by
  obtain ⟨te, pe, hev⟩ := hev
  have HTX : Hid (∀ (t : ByteArray) (T : Str) (w' : World), t.data.toList = T → t.size ≤ 50 → Below w.heap.size w w' → Calls Tryd.prog 11 #[.string t] w' (TextP T w')) := fun t T w' h1 h2 hb =>
    text_any t T mx te pe w' h1 h2 (moved hm hb (Nat.le_refl _)) (moved hev hb (Nat.le_refl _))
  have HTB : Hid (∀ w', Below w.heap.size w w' → Tabs w' w'.heap.size) := fun w' hb => (htab.down (Nat.le_refl _) hb).up hb.size
  have HPA : Hid (∀ (l : List Tok) (u : Value) (w' : World), SAt cTok w' (fun b => b < w'.heap.size) u l → Few l → Below w.heap.size w w' → Calls Tryd.prog 8 #[u] w' (ParseP l w')) := fun l u w' h1 h3 h2 =>
    parse_any l u _ w' h1 (fun _ h => h) (HTB.out _ h2) h3
  obtain ⟨z0, a, b, s, t, subs⟩ := x
  have ha := hbd.a; have hb := hbd.b
  simp only at ha hb
  have HPK1 : Hid (∀ w, Calls Tryd.prog 13 #[.int .i64 a, .int .i64 3] w fun e w' => e = .returned (.int .i64 (pick a (3 : Nat))) ∧ w = w') := fun w => picked_any a 3 w ha.1 ha.2 (by omega) (by omega)
  have HPK2 : Hid (∀ w, Calls Tryd.prog 13 #[.int .i64 b, .int .i64 3] w fun e w' => e = .returned (.int .i64 (pick b (3 : Nat))) ∧ w = w') := fun w => picked_any b 3 w hb.1 hb.2 (by omega) (by omega)
  have hi3 := pick_lt a 3 (by omega); have hj3 := pick_lt b 3 (by omega)
  generalize pick a (3 : Nat) = i at HPK1 hi3
  generalize pick b (3 : Nat) = j at HPK2 hj3
  clear ha hb hbd htab hm hev
  obtain ⟨M, hM⟩ : ∃ M : ByteArray, M = ⟨(tgM i).toArray⟩ := ⟨_, rfl⟩
  obtain ⟨P, hP⟩ : ∃ P : ByteArray, P = ⟨(tgP j).toArray⟩ := ⟨_, rfl⟩
  have hMl : M.size ≤ 9 := by rw [hM]; exact tgM_len i hi3
  have hPl : P.size ≤ 9 := by rw [hP]; exact tgP_len j hj3
  have HT : Hid (∀ (A B : ByteArray) (a b : Str) (w' : World), A = ⟨a.toArray⟩ → B = ⟨b.toArray⟩ → A.size ≤ 9 → B.size ≤ 9 → Below w.heap.size w w' → Calls Tryd.prog 11 #[.string ((⟨#[58]⟩ : ByteArray) ++ A ++ ⟨#[32, 58]⟩ ++ B)] w' (TextP (two a b) w')) := fun A B a b w' h1 h2 h3 h4 hb => by
    refine HTX.out _ _ w' ?_ ?_ hb
    · subst h1 h2; unfold two; simp
    · have : ((⟨#[58]⟩ : ByteArray) ++ A ++ ⟨#[32, 58]⟩ ++ B).size = 1 + A.size + 2 + B.size := by simp [ByteArray.size_append]; rfl
      omega
  have HT1 := Lib.hid (fun w' hb => HT.out M P _ _ w' hM hP hMl hPl hb)
  have HT2 := Lib.hid (fun w' hb => HT.out P M _ _ w' hP hM hPl hMl hb)
  have HT5 := Lib.hid (fun w' hb => HT.out M M _ _ w' hM hM hMl hMl hb)
  have HT3 : Hid (∀ w', Below w.heap.size w w' → Calls Tryd.prog 11 #[.string ⟨#[]⟩] w' (TextP [] w')) := fun w' hb => HTX.out _ _ w' rfl (by decide) hb
  have HT4 : Hid (∀ w', Below w.heap.size w w' → Calls Tryd.prog 11 #[.string ⟨#[58, 97, 108, 108, 32, 58, 105, 115]⟩] w' (TextP [58, 97, 108, 108, 32, 58, 105, 115] w')) := fun w' hb => HTX.out _ _ w' rfl (by decide) hb
  have HW1 := Lib.hid (tags_mp i j hi3 hj3); have HW2 := Lib.hid (tags_pm i j hi3 hj3); have HW3 := Lib.hid tags_no; have HW4 := Lib.hid tags_dfl; have HW5 := Lib.hid (tags_mm i hi3)
  have HQ1 := Lib.hid (few_of (few_mp i j hi3 hj3)); have HQ2 := Lib.hid (few_of (few_pm i j hi3 hj3)); have HQ3 := Lib.hid (few_of few_no); have HQ4 := Lib.hid (few_of few_dfl); have HQ5 := Lib.hid (few_of (few_mm i hi3))
  have HTM : Hid (∀ W : World, (W.alloc (.cells #[.string ⟨#[105, 115]⟩, .string ⟨#[99, 111, 110, 116, 97, 105, 110, 115]⟩, .string ⟨#[109, 97, 116, 99, 104, 101, 115]⟩] 9)).cell? ⟨W.heap.size, i, none⟩ = some (.string M)) := fun W => by
    rw [hM]
    match i, hi3 with
    | 0, _ => exact alloc_cell W _ _ 0 _ rfl
    | 1, _ => exact alloc_cell W _ _ 1 _ rfl
    | 2, _ => exact alloc_cell W _ _ 2 _ rfl
    | i + 3, h => exact absurd h (by omega)
  have HTP : Hid (∀ W : World, (W.alloc (.cells #[.string ⟨#[97, 108, 108]⟩, .string ⟨#[108, 111, 99, 97, 108, 112, 97, 114, 116]⟩, .string ⟨#[100, 111, 109, 97, 105, 110]⟩] 9)).cell? ⟨W.heap.size, j, none⟩ = some (.string P)) := fun W => by
    rw [hP]
    match j, hj3 with
    | 0, _ => exact alloc_cell W _ _ 0 _ rfl
    | 1, _ => exact alloc_cell W _ _ 1 _ rfl
    | 2, _ => exact alloc_cell W _ _ 2 _ rfl
    | j + 3, h => exact absurd h (by omega)
  have HFC := Lib.hid (tgC_form i j hi3 hj3); have HFC0 := Lib.hid (tgC_form 0 0 (by omega) (by omega))
  obtain ⟨c1, hc1⟩ : ∃ c1, c1 = [tgC i j] := ⟨_, rfl⟩
  obtain ⟨c0, hc0⟩ : ∃ c0, c0 = [tgC 0 0] := ⟨_, rfl⟩
  obtain ⟨l1, hl1⟩ : ∃ l1, l1 = tgT (two (tgM i) (tgP j)) := ⟨_, rfl⟩
  obtain ⟨l2, hl2⟩ : ∃ l2, l2 = tgT (two (tgP j) (tgM i)) := ⟨_, rfl⟩
  obtain ⟨l3, hl3⟩ : ∃ l3, l3 = tgT [] := ⟨_, rfl⟩
  obtain ⟨l4, hl4⟩ : ∃ l4, l4 = tgT [58, 97, 108, 108, 32, 58, 105, 115] := ⟨_, rfl⟩
  obtain ⟨l5, hl5⟩ : ∃ l5, l5 = tgT (two (tgM i) (tgM i)) := ⟨_, rfl⟩
  have hn1 : c1.length = 1 := by rw [hc1]; rfl
  have hn0 : c0.length = 1 := by rw [hc0]; rfl
  have HN1 : Hid ((c1.flatMap wC).length ≤ 1000000) := by
    unfold Hid; rw [hc1]
    have : ([tgC i j].flatMap wC).length ≤ 100 := by
      match i, hi3, j, hj3 with
      | 0, _, 0, _ => decide +kernel
      | 0, _, 1, _ => decide +kernel
      | 0, _, 2, _ => decide +kernel
      | 1, _, 0, _ => decide +kernel
      | 1, _, 1, _ => decide +kernel
      | 1, _, 2, _ => decide +kernel
      | 2, _, 0, _ => decide +kernel
      | 2, _, 1, _ => decide +kernel
      | 2, _, 2, _ => decide +kernel
      | i + 3, h, _, _ => exact absurd h (by omega)
      | 0, _, j + 3, h => exact absurd h (by omega)
      | 1, _, j + 3, h => exact absurd h (by omega)
      | 2, _, j + 3, h => exact absurd h (by omega)
    omega
  have HN0 : Hid ((c0.flatMap wC).length ≤ 1000000) := by
    unfold Hid; rw [hc0]
    have : ([tgC 0 0].flatMap wC).length ≤ 100 := by decide +kernel
    omega
  rw [← hc1] at HFC HW1 HW2
  rw [← hc0] at HFC0 HW3 HW4
  have hTT1 : tgT (two (tgM i) (tgP j)) = l1 := hl1.symm
  have hTT2 : tgT (two (tgP j) (tgM i)) = l2 := hl2.symm
  have hTT3 : tgT [] = l3 := hl3.symm
  have hTT4 : tgT [58, 97, 108, 108, 32, 58, 105, 115] = l4 := hl4.symm
  have hTT5 : tgT (two (tgM i) (tgM i)) = l5 := hl5.symm
  have HTT := Lib.hid (And.intro hTT1 (And.intro hTT2 (And.intro hTT3 (And.intro hTT4 hTT5))))
  rw [hTT1] at HW1 HQ1
  rw [hTT2] at HW2 HQ2
  rw [hTT3] at HW3 HQ3
  rw [hTT4] at HW4 HQ4
  rw [hTT5] at HW5 HQ5
  have HX := Lib.hid (Has.alloc w [.int .i64 z0, .int .i64 a, .int .i64 b, .string ⟨s.toArray⟩, .string ⟨t.toArray⟩, v] 38)
  have HA := Lib.hid (ba (Below.refl w.heap.size w) (.cells #[.int .i64 z0, .int .i64 a, .int .i64 b, .string ⟨s.toArray⟩, .string ⟨t.toArray⟩, v] 38))
  have hi0 : (0 : Int) ≤ (i : Int) := by omega
  have hi1 : (i : Int) < 3 := by omega
  have hj0 : (0 : Int) ≤ (j : Int) := by omega
  have hj1 : (j : Int) < 3 := by omega
  clear hTT1 hTT2 hTT3 hTT4 hTT5 hl1 hl2 hl3 hl4 hl5 hc1 hc0 hM hP HT HTX hi3 hj3
  unfold stkC
  go_enter Tryd.func5, Tryd.ntmps5
  go_upto_region 2 with fail
  refine wp_tags (R := fun W => W.cell? ⟨w.heap.size, 1, none⟩ = some (.int .i64 a) ∧ W.cell? ⟨w.heap.size, 2, none⟩ = some (.int .i64 b) ∧ Below w.heap.size w W) ⟨HX.out.1 1 _ rfl, HX.out.1 2 _ rfl, HA.out⟩ (fun W hW => ?_)
  obtain ⟨xa, xb, hB⟩ := hW
  obtain ⟨X, hX⟩ : ∃ X, X = w.heap.size := ⟨_, rfl⟩
  rw [← hX] at xa xb ⊢
  clear HX HA hX
  have hA1 := ba (Below.refl W.heap.size W) (.cells #[.string ⟨#[105, 115]⟩, .string ⟨#[99, 111, 110, 116, 97, 105, 110, 115]⟩, .string ⟨#[109, 97, 116, 99, 104, 101, 115]⟩] 9)
  have xa1 := moved xa hA1 (Nat.le_refl _)
  have xb1 := moved xb hA1 (Nat.le_refl _)
  have tM := HTM.out W
  have HB1 := Lib.hid (bt hB hA1)
  clear hB hA1 xa xb
  go_wp2_with fail
  refine (HPK1.out _).mono ?_
  rintro e w2 ⟨rfl, rfl⟩
  clear HPK1 xa1
  go_upto_region 3 with fail
  refine wp_tags (R := fun V => V.cell? ⟨X, 2, none⟩ = some (.int .i64 b) ∧ Below w.heap.size w V) ⟨xb1, HB1.out⟩ (fun V hV => ?_)
  obtain ⟨xb, hB⟩ := hV
  clear xb1 HB1 tM
  have hA1 := ba (Below.refl V.heap.size V) (.cells #[.string ⟨#[97, 108, 108]⟩, .string ⟨#[108, 111, 99, 97, 108, 112, 97, 114, 116]⟩, .string ⟨#[100, 111, 109, 97, 105, 110]⟩] 9)
  have xb1 := moved xb hA1 (Nat.le_refl _)
  have tP := HTP.out V
  have HB1 := Lib.hid (bt hB hA1)
  clear hB hA1 xb
  go_wp2_with fail
  refine (HPK2.out _).mono ?_
  rintro e w2 ⟨rfl, rfl⟩
  clear HPK2 xb1
  go_upto_region 4 with fail
  refine wp_tags (R := fun V => Below w.heap.size w V) HB1.out (fun V0 hV => ?_)
  have HB0 := Lib.hid hV
  clear HB1 tP hV HTM HTP
  have HC := Lib.hid (HT1.out _ HB0.out)
  go_wp2_with fail
  refine HC.out.mono ?_
  rintro e wa1 ⟨u1, rfl, hs, hb⟩
  rw [HTT.out.1] at hs
  obtain ⟨Ga1, ca1, rfl, -⟩ := hs.form
  have hba := bt HB0.out hb
  have HBA := Lib.hid hba
  have HP := Lib.hid (HPA.out _ _ wa1 hs HQ1.out hba)
  clear hs hba hb HC
  go_wp2_with fail
  refine HP.out.mono ?_
  rintro e wb1 hp
  obtain ⟨v1, rfl, hs, hb⟩ := hp
  rw [HW1.out] at hs ⊢
  obtain ⟨Gv1, cv1, rfl, -⟩ := hs.form
  have HB1 := Lib.hid (bt HBA.out hb)
  have HK1 := Lib.hid ((SAt.bd (fun _ _ hr => cmd_bd _ hr) hs).mono (F' := fun b => b < wb1.heap.size) (fun _ h => h.2))
  clear hs hb HP HBA
  have HC := Lib.hid (HT2.out _ HB1.out)
  go_wp2_with fail
  refine HC.out.mono ?_
  rintro e wa2 ⟨u2, rfl, hs, hb⟩
  rw [HTT.out.2.1] at hs
  obtain ⟨Ga2, ca2, rfl, -⟩ := hs.form
  have hba := bt HB1.out hb
  have HBA := Lib.hid hba
  have HP := Lib.hid (HPA.out _ _ wa2 hs HQ2.out hba)
  have HK1' := Lib.hid (HK1.out.stable (Same.of_below hb) hb.size)
  clear hs hba hb HC HK1
  go_wp2_with fail
  refine HP.out.mono ?_
  rintro e wb2 hp
  obtain ⟨v2, rfl, hs, hb⟩ := hp
  rw [HW2.out] at hs ⊢
  obtain ⟨Gv2, cv2, rfl, -⟩ := hs.form
  have HB2 := Lib.hid (bt HBA.out hb)
  have HK1 := Lib.hid (HK1'.out.stable (Same.of_below hb) hb.size)
  have HK2 := Lib.hid ((SAt.bd (fun _ _ hr => cmd_bd _ hr) hs).mono (F' := fun b => b < wb2.heap.size) (fun _ h => h.2))
  clear hs hb HP HBA HK1'
  have HC := Lib.hid (HT3.out _ HB2.out)
  go_wp2_with fail
  refine HC.out.mono ?_
  rintro e wa3 ⟨u3, rfl, hs, hb⟩
  rw [HTT.out.2.2.1] at hs
  obtain ⟨Ga3, ca3, rfl, -⟩ := hs.form
  have hba := bt HB2.out hb
  have HBA := Lib.hid hba
  have HP := Lib.hid (HPA.out _ _ wa3 hs HQ3.out hba)
  have HK1' := Lib.hid (HK1.out.stable (Same.of_below hb) hb.size)
  have HK2' := Lib.hid (HK2.out.stable (Same.of_below hb) hb.size)
  clear hs hba hb HC HK1 HK2
  go_wp2_with fail
  refine HP.out.mono ?_
  rintro e wb3 hp
  obtain ⟨v3, rfl, hs, hb⟩ := hp
  rw [HW3.out] at hs ⊢
  obtain ⟨Gv3, cv3, rfl, -⟩ := hs.form
  have HB3 := Lib.hid (bt HBA.out hb)
  have HK1 := Lib.hid (HK1'.out.stable (Same.of_below hb) hb.size)
  have HK2 := Lib.hid (HK2'.out.stable (Same.of_below hb) hb.size)
  have HK3 := Lib.hid ((SAt.bd (fun _ _ hr => cmd_bd _ hr) hs).mono (F' := fun b => b < wb3.heap.size) (fun _ h => h.2))
  clear hs hb HP HBA HK1' HK2'
  have HC := Lib.hid (HT4.out _ HB3.out)
  go_wp2_with fail
  refine HC.out.mono ?_
  rintro e wa4 ⟨u4, rfl, hs, hb⟩
  rw [HTT.out.2.2.2.1] at hs
  obtain ⟨Ga4, ca4, rfl, -⟩ := hs.form
  have hba := bt HB3.out hb
  have HBA := Lib.hid hba
  have HP := Lib.hid (HPA.out _ _ wa4 hs HQ4.out hba)
  have HK1' := Lib.hid (HK1.out.stable (Same.of_below hb) hb.size)
  have HK2' := Lib.hid (HK2.out.stable (Same.of_below hb) hb.size)
  have HK3' := Lib.hid (HK3.out.stable (Same.of_below hb) hb.size)
  clear hs hba hb HC HK1 HK2 HK3
  go_wp2_with fail
  refine HP.out.mono ?_
  rintro e wb4 hp
  obtain ⟨v4, rfl, hs, hb⟩ := hp
  rw [HW4.out] at hs ⊢
  obtain ⟨Gv4, cv4, rfl, -⟩ := hs.form
  have HB4 := Lib.hid (bt HBA.out hb)
  have HK1 := Lib.hid (HK1'.out.stable (Same.of_below hb) hb.size)
  have HK2 := Lib.hid (HK2'.out.stable (Same.of_below hb) hb.size)
  have HK3 := Lib.hid (HK3'.out.stable (Same.of_below hb) hb.size)
  have HK4 := Lib.hid ((SAt.bd (fun _ _ hr => cmd_bd _ hr) hs).mono (F' := fun b => b < wb4.heap.size) (fun _ h => h.2))
  clear hs hb HP HBA HK1' HK2' HK3'
  have HC := Lib.hid (HT5.out _ HB4.out)
  go_wp2_with fail
  refine HC.out.mono ?_
  rintro e wa5 ⟨u5, rfl, hs, hb⟩
  rw [HTT.out.2.2.2.2] at hs
  obtain ⟨Ga5, ca5, rfl, -⟩ := hs.form
  have hba := bt HB4.out hb
  have HBA := Lib.hid hba
  have HP := Lib.hid (HPA.out _ _ wa5 hs HQ5.out hba)
  have HK1' := Lib.hid (HK1.out.stable (Same.of_below hb) hb.size)
  have HK2' := Lib.hid (HK2.out.stable (Same.of_below hb) hb.size)
  have HK3' := Lib.hid (HK3.out.stable (Same.of_below hb) hb.size)
  have HK4' := Lib.hid (HK4.out.stable (Same.of_below hb) hb.size)
  clear hs hba hb HC HK1 HK2 HK3 HK4
  go_wp2_with fail
  refine HP.out.mono ?_
  rintro e wb5 hp
  obtain ⟨v5, rfl, hs, hb⟩ := hp
  rw [HW5.out] at hs ⊢
  obtain ⟨Gv5, cv5, rfl, -⟩ := hs.form
  have HB5 := Lib.hid (bt HBA.out hb)
  have HK1 := Lib.hid (HK1'.out.stable (Same.of_below hb) hb.size)
  have HK2 := Lib.hid (HK2'.out.stable (Same.of_below hb) hb.size)
  have HK3 := Lib.hid (HK3'.out.stable (Same.of_below hb) hb.size)
  have HK4 := Lib.hid (HK4'.out.stable (Same.of_below hb) hb.size)
  clear hs hb HP HBA HK1' HK2' HK3' HK4'
  have HC := Lib.hid (sameC_every _ c1 _ _ _ _ _ wb5 HK1.out HK2.out HFC.out HN1.out)
  rw [hn1] at HC
  go_wp2_with fail
  refine HC.out.mono ?_
  rintro e w6 ⟨rfl, hb⟩
  have HB6 := Lib.hid (bt HB5.out hb)
  have HC := Lib.hid (sameC_every _ c0 _ _ _ _ _ w6 (HK3.out.stable (Same.of_below hb) hb.size) (HK4.out.stable (Same.of_below hb) hb.size) HFC0.out HN0.out)
  rw [hn0] at HC
  clear hb
  go_wp2_with fail
  refine HC.out.mono ?_
  rintro e w7 ⟨rfl, hb⟩
  have HB7 := Lib.hid (bt HB6.out hb)
  clear hb HC
  go_wp2_with fail
  go_ret
  exact ⟨rfl, HB7.out⟩
theorem scriptTags_walk (vs : List Value) (n : Nat) (x : Stk) (mx : Int) (W : World) (h : (cStk n).rep W (fun _ => True) x vs) (hT : Tabs W W.heap.size) (hev : ∃ te pe, W.cell? ⟨6, 0, none⟩ = some (.iface te pe)) (hm : W.cell? ⟨4, 0, none⟩ = some (.int .i64 mx)) :
    Calls Tryd.prog 5 #[.agg vs.toArray] W fun e w' => e = .returned (.bool true) ∧ Below W.heap.size W w' := by
  obtain ⟨_, G, c, -, rfl, -, -, hb⟩ := stk_open h
  exact scriptTags_any x _ mx W hb hT hm hev
end Go.Proofs.YtlgbmnmoobpkkaaDoor.Sc
