/-
  DERIVED. What AskHeader asks: the plain side.
-/
import Derived.Test.YtkbbepienmpibaaGreatDoorJdA
namespace Go.Proofs.YtkbbepienmpibaaGreatDoor.Jd
open Go.RowKit
open Sc (Str Tst Cmd cStr strC tstC cTst cCmd RW Stk cStk)

def hdrT (n v : Str) : Tst := ⟨6, 1, 0, [n], [v], false, 0, []⟩
def exT (n : Str) : Tst := ⟨9, 0, 0, [n], [], false, 0, []⟩
def annJ : Str := [97, 110, 110]
def noneJ : Str := [110, 111, 110, 101]
def adrT : Tst := ⟨7, 1, 2, [toJ], [annJ], false, 0, []⟩
theorem one_few (s : Str) : (Sc.listT [s]).length = 1 := rfl
theorem hdrT_fine {n v : Str} (hn : n.length ≤ 100) (hv : v.length ≤ 100) : Fine 1 13 (hdrT n v) := by
  refine ⟨Sc.FormT.mk' (by unfold Sc.Form1 hdrT; simp) (fun s hs => by cases hs), Sc.niceT_mk (fun h => absurd h (by show ¬ (6 : Int) = 8; decide)) (Sc.all_short fun s hs => ?_) (fun s hs => by cases hs), Sc.LenTs_mk (fun s hs => ?_) (fun s hs => ?_) ⟨by show 1 ≤ _; omega, by show 1 ≤ _; omega, Nat.zero_le _⟩ Sc.nilT, ?_, ?_⟩
  · rcases List.mem_append.1 hs with h | h
    · obtain rfl := List.mem_singleton.1 h; exact hn
    · obtain rfl := List.mem_singleton.1 h; exact hv
  · obtain rfl := List.mem_singleton.1 hs; omega
  · obtain rfl := List.mem_singleton.1 hs; omega
  · rw [Sc.fitT_eq]; simp [hdrT]
  · rw [Sc.wT_eq]; simp [hdrT, Sc.bodyT, one_few]
theorem exT_fine {n : Str} (hn : n.length ≤ 100) : Fine 1 13 (exT n) := by
  refine ⟨Sc.FormT.mk' (by unfold Sc.Form1 exT; simp) (fun s hs => by cases hs), Sc.niceT_mk (fun h => absurd h (by show ¬ (9 : Int) = 8; decide)) (Sc.all_short fun s hs => ?_) (fun s hs => by cases hs), Sc.LenTs_mk (fun s hs => ?_) Sc.nilStr ⟨by show 1 ≤ _; omega, Nat.zero_le _, Nat.zero_le _⟩ Sc.nilT, ?_, ?_⟩
  · rcases List.mem_append.1 hs with h | h
    · obtain rfl := List.mem_singleton.1 h; exact hn
    · cases h
  · obtain rfl := List.mem_singleton.1 hs; omega
  · rw [Sc.fitT_eq]; simp [exT]
  · rw [Sc.wT_eq]; simp [exT, Sc.bodyT, one_few]
theorem adrT_fine : Fine 1 13 adrT := by
  refine ⟨Sc.FormT.mk' (by unfold Sc.Form1 adrT; simp) (fun s hs => by cases hs), Sc.niceT_mk (fun h => absurd h (by decide)) (by decide +kernel) (fun s hs => by cases hs), Sc.LenTs_mk (by decide) (by decide) (by decide) Sc.nilT, ?_, by decide +kernel⟩
  rw [Sc.fitT_eq]; simp [adrT]
theorem match_self (v : Str) : matchL 1 v v = true := by unfold matchL; rw [if_pos rfl]; simp
theorem vals_self {fs : List Fld} {f : Fld} (h : f ∈ fs) : f.2 ∈ valsJ fs f.1 := by
  unfold valsJ
  exact List.mem_map.2 ⟨f, List.mem_filter.2 ⟨h, by simp⟩, rfl⟩
theorem hdrT_says (x : Ltt) {fs : List Fld} {f : Fld} (h : f ∈ fs) : tstJ x fs (hdrT f.1 f.2) = true := by
  rw [tstJ_eq, if_neg (by show ¬ (6 : Int) = 3; decide), if_neg (by show ¬ (6 : Int) = 5; decide), if_neg (by show ¬ (6 : Int) = 4; decide)]
  unfold askL hdrT
  dsimp only
  rw [if_neg (by decide), if_neg (by decide), if_neg (by decide), if_neg (by decide), if_pos (.inl rfl)]
  have hv := vals_self h
  simp only [List.any_cons, List.any_nil, Bool.or_false]
  unfold fitsL hdrJ
  rw [if_neg (by decide), List.any_eq_true]
  exact ⟨f.2, hv, by rw [List.any_cons, match_self, Bool.true_or]⟩
theorem exT_says (x : Ltt) (fs : List Fld) (n : Str) : tstJ x fs (exT n) = !((valsJ fs n).length == 0) := by
  rw [tstJ_eq, if_neg (by show ¬ (9 : Int) = 3; decide), if_neg (by show ¬ (9 : Int) = 5; decide), if_neg (by show ¬ (9 : Int) = 4; decide)]
  unfold askL exT
  dsimp only
  rw [if_neg (by decide), if_neg (by decide), if_neg (by decide), if_pos rfl]
  simp only [List.any_cons, List.any_nil, Bool.or_false]
theorem exT_self (x : Ltt) {fs : List Fld} {f : Fld} (h : f ∈ fs) : tstJ x fs (exT f.1) = true := by
  rw [exT_says]
  have := List.length_pos_of_mem (vals_self h)
  have h1 : ((valsJ fs f.1).length == 0) = false := beq_eq_false_iff_ne.2 (by omega)
  rw [h1]; rfl
theorem letN_none : ∀ n : Nat, foldL (letN n) ≠ foldL noneJ := by
  intro n
  have h5 : n % 5 = 0 ∨ n % 5 = 1 ∨ n % 5 = 2 ∨ n % 5 = 3 ∨ n % 5 = 4 := by omega
  unfold letN
  rcases h5 with h | h | h | h | h <;> rw [h] <;> decide +kernel
theorem exT_none (x : Ltt) (z : Nat → Nat → ByteArray) (n : Nat) : tstJ x (ltrFs z n) (exT noneJ) = false := by
  rw [exT_says]
  have : valsJ (ltrFs z n) noneJ = [] := by
    unfold valsJ
    rw [List.map_eq_nil_iff, List.filter_eq_nil_iff]
    intro f hf
    unfold ltrFs at hf
    obtain ⟨g, -, rfl⟩ := List.mem_map.1 hf
    simpa [letF] using letN_none g.2.length
  rw [this]; rfl
/-- a field of Ann's -/
def annF (f : Fld) : Bool := f.1 == toJ && f.2 == annL
theorem ann_list : addrsJ annL = [(annJ, [120, 46, 121]), ([98], [99])] := by kernel_rfl
theorem ann_part : partL 2 annJ [120, 46, 121] = annJ := by kernel_rfl
theorem adrT_says (x : Ltt) {fs : List Fld} (h : fs.any annF = true) : tstJ x fs adrT = true := by
  obtain ⟨f, hf, hfa⟩ := List.any_eq_true.1 h
  unfold annF at hfa
  rw [Bool.and_eq_true, beq_iff_eq, beq_iff_eq] at hfa
  have hv := vals_self hf
  rw [hfa.1, hfa.2] at hv
  rw [tstJ_eq, if_neg (by decide), if_neg (by decide), if_neg (by decide)]
  unfold askL adrT
  dsimp only
  rw [if_neg (by decide), if_neg (by decide), if_neg (by decide), if_neg (by decide), if_pos (.inr rfl)]
  simp only [List.any_cons, List.any_nil, Bool.or_false]
  unfold fitsL hdrJ
  rw [if_pos rfl, List.any_eq_true]
  refine ⟨annJ, ?_, by rw [List.any_cons, match_self, Bool.true_or]⟩
  unfold partsJ
  refine List.mem_map.2 ⟨(annJ, [120, 46, 121]), List.mem_flatMap.2 ⟨annL, hv, by rw [ann_list]; exact List.mem_cons_self ..⟩, ann_part⟩
/-- one text in a block -/
theorem str_at (w : World) (N : Nat) (s : Str) (hN : w.cell? ⟨N, 0, none⟩ = some (.string ⟨s.toArray⟩)) : SAt cStr w (fun b => b < w.heap.size) (.slice (some ⟨N, 0, none⟩) 1 1) [s] := by
  refine ⟨_, 1, rfl, Nat.le_refl _, fun i x hi => ?_⟩
  match i, hi with
  | 0, hi =>
    obtain rfl : s = x := Option.some.inj hi
    refine ⟨N, 0, rfl, World.block_lt_of_cell? _ _ hN, World.block_lt_of_cell? _ _ hN, _, rfl, fun j u hj => ?_⟩
    match j, hj with
    | 0, hj => obtain rfl := Option.some.inj hj; exact hN
    | j + 1, hj => simp [strC] at hj
  | i + 1, hi => exact absurd hi (by simp)
theorem two_strs (W : World) (s t : Value) (e : TypeId) : ((W.alloc (.cells #[s] e)).alloc (.cells #[t] e)).cell? ⟨W.heap.size, 0, none⟩ = some s ∧ ((W.alloc (.cells #[s] e)).alloc (.cells #[t] e)).cell? ⟨W.heap.size + 1, 0, none⟩ = some t := by
  have h2 := alloc_cell (W.alloc (.cells #[s] e)) #[t] e 0 _ rfl
  rw [World.size_alloc] at h2
  exact ⟨moved (alloc_cell W #[s] e 0 _ rfl) (ba (Below.refl (W.alloc (.cells #[s] e)).heap.size (W.alloc (.cells #[s] e))) (.cells #[t] e)) (Nat.le_refl _), h2⟩
end Go.Proofs.YtkbbepienmpibaaGreatDoor.Jd
