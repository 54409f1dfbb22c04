/-
  DERIVED. Merged of: BoxSt0, StFold, StFoldW, BoxKeep, FoldParts.
-/
import Derived.Test.YtaeejmggmgejcaaDoorBoxApply1
import Derived.Test.YtaeejmggmgejcaaDoorBats
import Derived.Test.YtaeejmggmgejcaaDoorBCheck
import Derived.Deep.DeepCutAuto
import Derived.Test.YtaeejmggmgejcaaDoorBoxSize
import Derived.Test.YtaeejmggmgejcaaDoorReader
import Derived.BigQuiet
import Derived.Deep.QuietTactic
import Derived.Test.YtaeejmggmgejcaaDoorBatchesOf
import Derived.Deep.RegionHeld3
namespace Go.Proofs.YtaeejmggmgejcaaDoor
open Go.RowKit

def st0 : St := ⟨[⟨[73, 78, 66, 79, 88], 1, []⟩], []⟩
theorem allS_one (s : St) (x : Ent) (hx : formV x = 0) : allS s [x] = if (applyS s x).2 ≠ 0 then (s, (applyS s x).2) else ((applyS s x).1, 0) := by
  show (if formV x ≠ 0 then _ else if (applyS s x).2 ≠ 0 then _ else _) = _
  rw [if_neg (by rw [hx]; decide)]; rfl
theorem allS_one_good {s : St} {x : Ent} (hg : GoodS s) (hx : formV x = 0) : GoodS (allS s [x]).1 := by
  rw [allS_one s x hx]
  split
  · exact hg
  · exact applyS_good hg hx
theorem st0_good : GoodS st0 where
  boxes := by decide
  spool := by decide
  ok := fun b hb => by
    obtain rfl := List.mem_singleton.1 hb
    exact ⟨by decide +kernel, Nat.le_refl _, by show (1 : Nat) ≤ 1048577; omega, Nat.zero_le _, trivial⟩
  names := List.pairwise_singleton _ _
  out := fun x hx => by cases hx
  room := Nat.zero_le _
/-- what stands behind one Apply -/
def ApNew (r : St × Int) (wr : World) (p e : Value) (wx : World) : Prop := ∃ (R : Nat) (B : Nat), p = .pointer (some ⟨R, 0, none⟩) ∧ e = .int .i64 r.2 ∧ wr.heap.size ≤ R ∧ wr.heap.size ≤ B ∧ Below wr.heap.size wr wx ∧ R < wx.heap.size ∧
  (r.2 = 0 → ∃ G1 c1 G2 c2, Has wx R [.slice G1 r.1.boxes.length c1, .slice G2 r.1.spool.length c2] ∧ OwnV wx B (.slice G1 r.1.boxes.length c1) (.slice G2 r.1.spool.length c2) r.1)

theorem ap_new {r : St × Int} {wr wx : World} {B : Nat} {v1 v2 : Value} (hb : Below wr.heap.size wr wx) (hB : wr.heap.size ≤ B) (h : r.2 = 0 → ∃ G1 c1 G2 c2, v1 = .slice G1 r.1.boxes.length c1 ∧ v2 = .slice G2 r.1.spool.length c2 ∧ OwnV wx B v1 v2 r.1) :
    ApNew r wr (.pointer (some ⟨wx.heap.size, 0, none⟩)) (.int .i64 r.2) (wx.alloc (.cells #[v1, v2] 29)) :=
  ⟨wx.heap.size, B, rfl, rfl, hb.size, hB, ba hb _, by simp, fun h0 => by obtain ⟨G1, c1, G2, c2, rfl, rfl, ho⟩ := h h0; exact ⟨G1, c1, G2, c2, Has.alloc wx _ _, ho.down (ba (Below.refl _ _) _)⟩⟩
theorem ap_at {r : St × Int} {wr wx : World} {B R : Nat} {v1 v2 : Value} (hb : Below wr.heap.size wr wx) (hR : wr.heap.size ≤ R) (hB : R < B) (hk : Has wx R [.slice none 0 0, .slice none 0 0]) (h : r.2 = 0 → ∃ G1 c1 G2 c2, v1 = .slice G1 r.1.boxes.length c1 ∧ v2 = .slice G2 r.1.spool.length c2 ∧ OwnV wx B v1 v2 r.1) :
    ApNew r wr (.pointer (some ⟨R, 0, none⟩)) (.int .i64 r.2) ((wx.setCell ⟨R, 0, none⟩ v1).setCell ⟨R, 1, none⟩ v2) :=
  ⟨R, B, rfl, rfl, hR, by omega, (hb.setCell (p := ⟨R, 0, none⟩) hR _).setCell (p := ⟨R, 1, none⟩) hR _, by have := hk.2.2; simpa using this, fun h0 => by
    obtain ⟨G1, c1, G2, c2, rfl, rfl, ho⟩ := h h0
    exact ⟨G1, c1, G2, c2, (hk.set' (i := 0) _ (by simp)).set' (i := 1) _ (by simp), (ho.else' hB).else' hB⟩⟩
end Go.Proofs.YtaeejmggmgejcaaDoor
namespace Go.Proofs.YtaeejmggmgejcaaDoor
open Go.RowKit

def foldStep (u : Nat) (s : St) (b : Bat) : St := if b.1 = u then (if (allS s b.2).2 = 0 then (allS s b.2).1 else s) else s
def foldS (u : Nat) (bs : List Bat) : St := bs.foldl (foldStep u) st0
theorem fold_take (u : Nat) (bs : List Bat) (j : Nat) (h : j < bs.length) : foldS u (bs.take (j + 1)) = foldStep u (foldS u (bs.take j)) bs[j] := by
  unfold foldS; rw [List.take_succ_eq_append_getElem h, List.foldl_append]; rfl
theorem allS_good : ∀ (l : List Ent) (s : St), GoodS s → (∀ x ∈ l, formV x = 0) → GoodS (allS s l).1
  | [], _, h, _ => h
  | x :: l, s, h, hf => by
    have hx := hf x (List.mem_cons_self ..)
    rw [allS, if_neg (by rw [hx]; decide)]
    split
    · exact h
    · exact allS_good l _ (applyS_good h hx) fun y hy => hf y (List.mem_cons_of_mem _ hy)
theorem foldStep_good {u : Nat} {s : St} {b : Bat} (h : GoodS s) (hb : GoodB b) : GoodS (foldStep u s b) := by
  unfold foldStep
  split
  · split
    · exact allS_good _ _ h (bcheck_inv hb).2.2
    · exact h
  · exact h
theorem foldl_good (u : Nat) : ∀ (bs : List Bat) (s : St), GoodS s → (∀ b ∈ bs, GoodB b) → GoodS (bs.foldl (foldStep u) s)
  | [], _, h, _ => h
  | b :: l, s, h, hb => foldl_good u l _ (foldStep_good h (hb b (List.mem_cons_self ..))) fun x hx => hb x (List.mem_cons_of_mem _ hx)
theorem foldS_good (u : Nat) (bs : List Bat) (hb : ∀ b ∈ bs, GoodB b) : GoodS (foldS u bs) := foldl_good u bs st0 st0_good hb
theorem addS_boxes {s t : St} {i fl : Nat} {tx : List UInt8} (h : addS s i fl tx = some t) : t.boxes.length = s.boxes.length := by
  unfold addS at h
  split at h
  · cases h
  · split at h
    · cases h
    · obtain rfl := Option.some.inj h; simp
theorem applyS_boxes (s : St) (x : Ent) : s.boxes.length ≤ (applyS s x).1.boxes.length := by
  unfold applyS
  split
  · split
    · exact Nat.le_refl _
    · exact Nat.le_refl _
  · split
    · split
      · split
        · exact Nat.le_refl _
        · simp
      · exact Nat.le_refl _
    · split
      · exact Nat.le_refl _
      · split
        · split
          · rename_i h; exact Nat.le_of_eq (addS_boxes h).symm
          · exact Nat.le_refl _
        · split
          · exact Nat.le_refl _
          · split
            · simp
            · split
              · exact Nat.le_refl _
              · split
                · exact Nat.le_refl _
                · split
                  · simp
                  · split
                    · exact Nat.le_refl _
                    · split
                      · rename_i h; exact Nat.le_of_eq (addS_boxes h).symm
                      · exact Nat.le_refl _
theorem allS_boxes : ∀ (l : List Ent) (s : St), s.boxes.length ≤ (allS s l).1.boxes.length
  | [], _ => Nat.le_refl _
  | x :: l, s => by
    rw [allS]
    split
    · exact Nat.le_refl _
    · split
      · exact Nat.le_refl _
      · exact Nat.le_trans (applyS_boxes s x) (allS_boxes l _)
theorem foldStep_boxes (u : Nat) (s : St) (b : Bat) : s.boxes.length ≤ (foldStep u s b).boxes.length := by
  unfold foldStep
  split
  · split
    · exact allS_boxes _ _
    · exact Nat.le_refl _
  · exact Nat.le_refl _
theorem foldl_boxes (u : Nat) : ∀ (bs : List Bat) (s : St), s.boxes.length ≤ (bs.foldl (foldStep u) s).boxes.length
  | [], _ => Nat.le_refl _
  | b :: l, s => Nat.le_trans (foldStep_boxes u s b) (foldl_boxes u l _)
theorem foldS_pos (u : Nat) (bs : List Bat) : 0 < (foldS u bs).boxes.length := Nat.lt_of_lt_of_le (by decide : 0 < st0.boxes.length) (foldl_boxes u bs st0)
/-- those of one user -/
def mineS (u : Nat) (bs : List Bat) : List Bat := bs.filter fun b => b.1 == u
theorem mine_take (u : Nat) (bs : List Bat) (j : Nat) (h : j < bs.length) : mineS u (bs.take (j + 1)) = if bs[j].1 = u then mineS u (bs.take j) ++ [bs[j]] else mineS u (bs.take j) := by
  unfold mineS
  rw [List.take_succ_eq_append_getElem h, List.filter_append, List.filter_cons]
  by_cases hu : bs[j].1 = u
  · rw [if_pos (by simp [hu]), if_pos hu, List.filter_nil]
  · rw [if_neg (by simp [hu]), if_neg hu, List.filter_nil, List.append_nil]
theorem fold_mine (u : Nat) : ∀ (bs : List Bat) (s : St), (mineS u bs).foldl (foldStep u) s = bs.foldl (foldStep u) s
  | [], _ => rfl
  | b :: l, s => by
    by_cases hu : b.1 = u
    · have e : mineS u (b :: l) = b :: mineS u l := by unfold mineS; rw [List.filter_cons, if_pos (by simp [hu])]
      rw [e]; exact fold_mine u l _
    · have e : mineS u (b :: l) = mineS u l := by unfold mineS; rw [List.filter_cons, if_neg (by simp [hu])]
      have e2 : foldStep u s b = s := by unfold foldStep; rw [if_neg hu]
      rw [e, fold_mine u l s, List.foldl_cons, e2]
theorem foldS_mine (u : Nat) (bs : List Bat) : foldS u (mineS u bs) = foldS u bs := fold_mine u bs st0
theorem mine_good {u : Nat} {bs : List Bat} (h : ∀ b ∈ bs, GoodB b) : ∀ b ∈ mineS u bs, GoodB b := fun b hb => h b (List.mem_filter.1 hb).1
theorem mine_len (u : Nat) (bs : List Bat) : (mineS u bs).length ≤ bs.length := List.length_filter_le _ _
/-- the first entry of each state -/
def inbox1 : Ent := ⟨1, 0, 0, [73, 78, 66, 79, 88], [], []⟩
theorem inbox1_form : formV inbox1 = 0 := by decide
theorem start_all : allS ⟨[], []⟩ [inbox1] = (st0, 0) := by
  rw [allS_one _ _ inbox1_form]
  have e : applyS ⟨[], []⟩ inbox1 = (st0, 0) := rfl
  rw [e]; rfl
theorem empty_good : GoodS ⟨[], []⟩ where
  boxes := Nat.zero_le _
  spool := Nat.zero_le _
  ok := fun b hb => by cases hb
  names := List.Pairwise.nil
  out := fun x hx => by cases hx
  room := Nat.zero_le _
/-- entries, read in the other way -/
theorem EntsAt.sat {w : World} {v : Value} {xs : List Ent} (h : EntsAt w v xs) : SAt cEnt w (fun _ => True) v xs := by
  obtain ⟨G, cap, hv, hc, hf⟩ := h
  refine ⟨G, cap, hv, hc, fun i x hi => ?_⟩
  obtain ⟨g, hG, hg, h0, h1, h2, h3, h4, h5⟩ := hf i x hi
  refine ⟨g, 0, hG, trivial, hg, entC x, rfl, fun j u hj => ?_⟩
  have e : (0 : Nat) + i * cEnt.size = i * 6 := by show 0 + i * 6 = i * 6; omega
  rw [e]
  match j, hj with
  | 0, hj => rw [← Option.some.inj hj]; exact h0
  | 1, hj => rw [← Option.some.inj hj]; exact h1
  | 2, hj => rw [← Option.some.inj hj]; exact h2
  | 3, hj => rw [← Option.some.inj hj]; exact h3
  | 4, hj => rw [← Option.some.inj hj]; exact h4
  | 5, hj => rw [← Option.some.inj hj]; exact h5
  | j + 6, hj => simp [entC] at hj
/-- batch j, as the walk reads it -/
theorem bat_get {w wr : World} {G : Option Addr} {n cap : Nat} {bs : List Bat} (h : BatsAt w (.slice G n cap) bs) (hb : Below w.heap.size w wr) (j : Nat) (hj : j < bs.length) :
    ∃ g Ge ce, G = some ⟨g, 0, none⟩ ∧ g < w.heap.size ∧ wr.cell? ⟨g, j * 2, none⟩ = some (.int .i64 bs[j].1) ∧ wr.cell? ⟨g, j * 2 + 1, none⟩ = some (.slice Ge bs[j].2.length ce) ∧ EntsAt wr (.slice Ge bs[j].2.length ce) bs[j].2 := by
  obtain ⟨G', cap', hv, hc, hf⟩ := h
  cases hv
  obtain ⟨g, hG, hg, v, h1, h2, h3⟩ := hf j bs[j] (List.getElem?_eq_getElem hj)
  have h3' := h3
  obtain ⟨Ge, ce, rfl, -, -⟩ := h3'
  exact ⟨g, Ge, ce, hG, hg, moved h1 hb (Nat.le_refl _), moved h2 hb (Nat.le_refl _), h3.down hb⟩
/-- what a slice points at is there -/
theorem flat_lt {α : Type} {k : Nat} {f : α → List Value} {hf : ∀ x, (f x).length = k} {w : World} {F : Dom} {v : Value} {xs : List α} (h : SAt (Cod.flat k f hf) w F v xs) : SAt (Cod.flat k f hf) w (fun b => F b ∧ b < w.heap.size) v xs := by
  obtain ⟨G, cap, hv, hcp, hall⟩ := h
  refine ⟨G, cap, hv, hcp, fun i x hi => ?_⟩
  obtain ⟨g, off, hG, hF, hg, vs, h1, h2⟩ := hall i x hi
  exact ⟨g, off, hG, ⟨hF, hg⟩, hg, vs, h1, h2⟩
theorem box_lt {w : World} {F : Dom} {v : Value} {xs : List Bx} (h : SAt cBox w F v xs) : SAt cBox w (fun b => F b ∧ b < w.heap.size) v xs := by
  obtain ⟨G, cap, hv, hcp, hall⟩ := h
  refine ⟨G, cap, hv, hcp, fun i x hi => ?_⟩
  obtain ⟨g, off, hG, hF, hg, vs, ⟨u, h1, h2⟩, h3⟩ := hall i x hi
  exact ⟨g, off, hG, ⟨hF, hg⟩, hg, vs, ⟨u, h1, flat_lt h2⟩, h3⟩
end Go.Proofs.YtaeejmggmgejcaaDoor
namespace Go.Proofs.YtaeejmggmgejcaaDoor
open Go.RowKit

/-- what Fold answers -/
def FoldPost (u : Nat) (s : St) (w : World) (e : Ending) (w' : World) : Prop :=
  (if u < 3 then ∃ G1 c1 G2 c2, e = .returned (.tuple #[.agg #[.slice G1 s.boxes.length c1, .slice G2 s.spool.length c2], .int .i64 0]) ∧ SAt cBox w' (fun b => w.heap.size ≤ b) (.slice G1 s.boxes.length c1) s.boxes ∧ SAt cEnt w' (fun b => w.heap.size ≤ b) (.slice G2 s.spool.length c2) s.spool
   else e = .returned (.tuple #[.agg #[.slice none 0 0, .slice none 0 0], .int .i64 6])) ∧ Below w.heap.size w w'
theorem fold_end {R u : Nat} {s : St} {G1 G2 : Option Addr} {c1 c2 : Nat} {a : Act} {W w : World} (ht : a.tmps.getD 4 undef = .pointer (some ⟨R, 0, none⟩)) (ht5 : a.tmps.getD 5 undef = .int .i64 0) (hd : a.defers = []) (hu : u < 3)
    (h : Has W R [.slice G1 s.boxes.length c1, .slice G2 s.spool.length c2]) (h1 : SAt cBox W (fun b => w.heap.size ≤ b) (.slice G1 s.boxes.length c1) s.boxes) (h2 : SAt cEnt W (fun b => w.heap.size ≤ b) (.slice G2 s.spool.length c2) s.spool) (hb : Below w.heap.size w W) : bodyPost Tryd.prog Tryd.f6 (FoldPost u s w) .ret a W := by
  obtain ⟨c0, c1', _, _⟩ := h.two
  refine bodyPost_ret (v := .tuple #[.agg #[.slice G1 s.boxes.length c1, .slice G2 s.spool.length c2], .int .i64 0]) ?_ hd ⟨by rw [if_pos hu]; exact ⟨_, _, _, _, rfl, h1, h2⟩, hb⟩
  have ht' : a.tmps[4]?.getD undef = .pointer (some ⟨R, 0, none⟩) := by simpa using ht
  have ht5' : a.tmps[5]?.getD undef = .int .i64 0 := by simpa using ht5
  simp [results, Tryd.results6, go_sem, ht', ht5', c0, c1']
theorem fold_end0 {R u : Nat} {s : St} {a : Act} {W w : World} (ht : a.tmps.getD 4 undef = .pointer (some ⟨R, 0, none⟩)) (ht5 : a.tmps.getD 5 undef = .int .i64 6) (hd : a.defers = []) (hu : ¬ u < 3)
    (h : Has W R [.slice none 0 0, .slice none 0 0]) (hb : Below w.heap.size w W) : bodyPost Tryd.prog Tryd.f6 (FoldPost u s w) .ret a W := by
  obtain ⟨c0, c1', _, _⟩ := h.two
  refine bodyPost_ret (v := .tuple #[.agg #[.slice none 0 0, .slice none 0 0], .int .i64 6]) ?_ hd ⟨by rw [if_neg hu], hb⟩
  have ht' : a.tmps[4]?.getD undef = .pointer (some ⟨R, 0, none⟩) := by simpa using ht
  have ht5' : a.tmps[5]?.getD undef = .int .i64 6 := by simpa using ht5
  simp [results, Tryd.results6, go_sem, ht', ht5', c0, c1']
/-- at the head of the second loop -/
def FoRel (u N9 : Nat) (bs : List Bat) (w : World) (i : Value) (wr : World) : Prop := ∃ (j : Nat) (t : St) (G1 : Option Addr) (c1 : Nat) (G2 : Option Addr) (c2 : Nat), j ≤ bs.length ∧ i = .int .i64 j ∧ t = foldS u (bs.take j) ∧ GoodS t ∧ Has wr N9 [.slice G1 t.boxes.length c1, .slice G2 t.spool.length c2] ∧
  SAt cBox wr (fun b => w.heap.size < b ∧ b ≠ N9) (.slice G1 t.boxes.length c1) t.boxes ∧ SAt cEnt wr (fun b => w.heap.size < b ∧ b ≠ N9) (.slice G2 t.spool.length c2) t.spool ∧ Has wr w.heap.size [.slice none 0 0, .slice none 0 0] ∧ Below w.heap.size w wr

theorem all_step {r : St × Int} {w : World} {e : Ending} {w' : World} (h : AllPost r w e w') (h0 : r.2 = 0) : (∃ G1 c1 G2 c2, e = .returned (.tuple #[.agg #[.slice G1 r.1.boxes.length c1, .slice G2 r.1.spool.length c2], .int .i64 0]) ∧ OwnV w' w.heap.size (.slice G1 r.1.boxes.length c1) (.slice G2 r.1.spool.length c2) r.1) ∧ Below w.heap.size w w' := by
  unfold AllPost at h; rwa [if_pos h0] at h
theorem all_stay {r : St × Int} {w : World} {e : Ending} {w' : World} (h : AllPost r w e w') (h0 : r.2 ≠ 0) : e = .returned (.tuple #[.agg #[.slice none 0 0, .slice none 0 0], .int .i64 r.2]) ∧ Below w.heap.size w w' := by
  unfold AllPost at h; rwa [if_neg h0] at h
theorem ap_start {w : World} {e : Ending} {w' : World} (h : ApPost (allS ⟨[], []⟩ [inbox1]) w e w') : (∃ G1 c1 G2 c2, e = .returned (.tuple #[.agg #[.slice G1 st0.boxes.length c1, .slice G2 st0.spool.length c2], .int .i64 0]) ∧ OwnV w' w.heap.size (.slice G1 st0.boxes.length c1) (.slice G2 st0.spool.length c2) st0) ∧ Below w.heap.size w w' := by
  rw [start_all] at h
  exact h
set_option maxHeartbeats 8000000 in
set_option maxRecDepth 20000 in
theorem fold_any (u : Nat) (bs : List Bat) (v : Value) (m : Int) (w : World) (h : BatsAt w v bs) (hok : ∀ b ∈ bs, GoodB b) (hlen : bs.length ≤ 1000000) (hu : u ≤ 3) (hm : w.cell? ⟨0, 0, none⟩ = some (.int .i64 m)) :
    Calls Tryd.prog 6 #[v, .int .i64 u] w (FoldPost u (foldS u bs) w) := by
  have h' := h
  obtain ⟨G, cap, rfl, hcap, -⟩ := h'
  have hA := ba (Below.refl w.heap.size w) (.cells #[.slice none 0 0, .slice none 0 0] 29)
  have hR := Has.alloc w [.slice none 0 0, .slice none 0 0] 29
  have HA := Lib.hid hA; have HR := Lib.hid hR; have H := Lib.hid h; have HOK := Lib.hid hok; have HM := Lib.hid hm
  clear hA hR h hok hm
  go_enter Tryd.func6, Tryd.ntmps6
  go_wp2_with fail
  go_loopw [17] (fun i wr => ∃ j : Nat, j ≤ bs.length ∧ i = .int .i64 j ∧ Has wr w.heap.size [.slice none 0 0, .slice none 0 0] ∧ Below w.heap.size w wr) (fun i _ => bs.length - (intOf i).toNat)
  case atStart => exact ⟨0, Nat.zero_le _, rfl, HR.out, HA.out⟩
  case round =>
    obtain ⟨j, hj, rfl, hR, hb⟩ := hrel
    clear HA HR
    have HR := Lib.hid hR; have HB := Lib.hid hb
    by_cases hlt : j < bs.length
    · obtain ⟨g, Ge, ce, rfl, hg, c0, c1, he⟩ := bat_get H.out hb j hlt
      have hgood := bcheck_inv (HOK.out _ (List.getElem_mem hlt))
      have hgr : g < wr.heap.size := Nat.lt_of_lt_of_le hg hb.size
      have hzero : bcheckV bs[j].1 bs[j].2 = 0 := HOK.out _ (List.getElem_mem hlt)
      generalize bs[j] = b at c0 c1 he hgood hzero
      obtain ⟨bu, xs⟩ := b
      simp only at c0 c1 he hgood hzero
      have hA3 := ba (Below.refl wr.heap.size wr) (.cells #[.int .i64 bu, .slice Ge xs.length ce] 34)
      have HC := Lib.hid (bcheck_any bu xs _ m _ (he.down hA3) (fun x hx => (small_of_form (hgood.2.2 x hx)).fits) (by omega) (by omega) (moved HM.out (bt hb hA3) (Nat.le_refl _)))
      rw [hzero] at HC
      have HB3 := Lib.hid (bt hb hA3); have HR3 := Lib.hid (hR.down hA3)
      clear hA3 hgood hzero he hR hb
      go_wp2_with fail
      refine HC.out.mono ?_
      rintro e w3 ⟨rfl, hb3⟩
      have HB4 := Lib.hid (bt HB3.out hb3); have HR4 := Lib.hid (HR3.out.down hb3)
      clear hb3 c0 c1 HC
      go_wp2_with fail
      go_roundw
      case rel => exact ⟨j + 1, hlt, by go_num, HR4.out, HB4.out⟩
      case measure => simp [intOf]; omega
    · obtain rfl : j = bs.length := by omega
      by_cases hu3 : u < 3
      · have q1 : ((u : Int) < 0) = False := eq_false (by omega)
        have q2 : ((u : Int) ≥ 3) = False := eq_false (by omega)
        have hge : (u : Int) < 3 := by omega
        have HAP := Lib.hid (Apply_any ⟨[], []⟩ inbox1 (.slice none 0 0) (.slice none 0 0) (fun _ => False) m wr (SAt.nil _ _ _) (SAt.nil _ _ _) empty_good (small_of_form inbox1_form) (moved HM.out HB.out (Nat.le_refl _)))
        have HU3 := Lib.hid hu3
        clear hR hb hu3
        go_wp2_with fail
        refine HAP.out.mono ?_
        intro e w2 hap
        obtain ⟨⟨G1, c1, G2, c2, rfl, hov⟩, hb2⟩ := ap_start hap
        have hsat := hov.sat (F := fun b => wr.heap.size ≤ b) (fun b hb => hb)
        have hA9 := ba (Below.refl w2.heap.size w2) (.cells #[.slice G1 st0.boxes.length c1, .slice G2 st0.spool.length c2] 29)
        have hRR := HR.out.2.2
        have hs1 := ((box_lt hsat.1).mono (F' := fun b => w.heap.size < b ∧ b ≠ w2.heap.size) (fun b hb => ⟨by omega, by omega⟩)).down hA9
        have hs2 := ((flat_lt hsat.2).mono (F' := fun b => w.heap.size < b ∧ b ≠ w2.heap.size) (fun b hb => ⟨by omega, by omega⟩)).down hA9
        have hN9 := Has.alloc w2 [.slice G1 st0.boxes.length c1, .slice G2 st0.spool.length c2] 29
        have hB9 := bt (bt HB.out hb2) hA9
        have hw9 : w.heap.size < w2.heap.size := Nat.lt_of_lt_of_le hRR hb2.size
        have hR9 := (HR.out.down hb2).down hA9
        have HS1 := Lib.hid hs1; have HS2 := Lib.hid hs2; have HN9 := Lib.hid hN9; have HB9 := Lib.hid hB9; have HR9 := Lib.hid hR9
        clear hsat hA9 hs1 hs2 hN9 hB9 hR9 hov hap hb2 HAP HR HB hRR
        go_wp2_with fail
        obtain ⟨N9, hN⟩ : ∃ N9, N9 = w2.heap.size := ⟨_, rfl⟩
        obtain ⟨W9, hW⟩ : ∃ W9, W9 = w2.alloc (.cells #[.slice G1 st0.boxes.length c1, .slice G2 st0.spool.length c2] 29) := ⟨_, rfl⟩
        rw [← hN, ← hW] at HS1 HS2 HN9
        rw [← hW] at HB9 HR9
        rw [← hN] at hw9
        rw [← hN, ← hW]
        clear hN hW
        go_loopw [43] (FoRel u N9 bs w) (fun i _ => bs.length - (intOf i).toNat)
        case atStart => exact ⟨0, st0, G1, c1, G2, c2, Nat.zero_le _, rfl, rfl, st0_good, HN9.out, HS1.out, HS2.out, HR9.out, HB9.out⟩
        case round =>
          obtain ⟨j, t, D1, d1, D2, d2, hj, rfl, ht, hgt, hO, hS1, hS2, hR, hb⟩ := hrel
          clear HS1 HS2 HN9 HB9 HR9
          have HT := Lib.hid ht; have HGT := Lib.hid hgt; have HO := Lib.hid hO; have HS1 := Lib.hid hS1; have HS2 := Lib.hid hS2; have HR := Lib.hid hR; have HB := Lib.hid hb
          obtain ⟨o0, o1, g0, g1⟩ := hO.two
          clear ht hgt hO hS1 hS2 hR
          by_cases hlt : j < bs.length
          · obtain ⟨g, Ge, ce, rfl, hg, c0, c1', he⟩ := bat_get H.out hb j hlt
            have hgood := bcheck_inv (HOK.out _ (List.getElem_mem hlt))
            have hst := fold_take u bs j hlt
            rw [← HT.out] at hst
            generalize bs[j] = b at c0 c1' he hgood hst
            obtain ⟨bu, xs⟩ := b
            simp only at c0 c1' he hgood
            have hA3 := ba (Below.refl wr.heap.size wr) (.cells #[.int .i64 bu, .slice Ge xs.length ce] 34)
            have HX3 := Lib.hid (Has.alloc wr [.int .i64 bu, .slice Ge xs.length ce] 34)
            have HO3 := Lib.hid (HO.out.down hA3); have HS13 := Lib.hid (HS1.out.down hA3); have HS23 := Lib.hid (HS2.out.down hA3); have HR3 := Lib.hid (HR.out.down hA3); have HB3 := Lib.hid (bt hb hA3); have HE3 := Lib.hid (he.down hA3).sat
            have HGD := Lib.hid hgood; have HST := Lib.hid hst
            clear hA3 he hgood hst hb HO HS1 HS2 HR HB
            by_cases hbu : bu = u
            · subst hbu
              have hst2 : Hid (foldS bu (bs.take (j + 1)) = if (allS t xs).2 = 0 then (allS t xs).1 else t) := by
                unfold Hid; rw [HST.out]; unfold foldStep; rw [if_pos rfl]
              have HALL := Lib.hid (all_any (F := fun _ => True) t xs _ _ _ m _ (HS13.out.mono (fun _ _ => trivial)) (HS23.out.mono (fun _ _ => trivial)) HGT.out HE3.out HGD.out.2.1.2 (fun x hx => small_of_form (HGD.out.2.2 x hx)) (moved HM.out HB3.out (Nat.le_refl _)))
              have HGA := Lib.hid (allS_good xs t HGT.out HGD.out.2.2)
              obtain ⟨r, hr⟩ : ∃ r, r = allS t xs := ⟨_, rfl⟩
              rw [← hr] at hst2 HALL HGA
              clear hr
              obtain ⟨x0, x1, -, -⟩ := HX3.out.two
              obtain ⟨p0, p1, -, -⟩ := HO3.out.two
              have hz3 := HO3.out.2.2
              by_cases hr0 : r.2 = 0
              · have q : (r.2 == 0) = true := by rw [hr0]; rfl
                have HR0 := Lib.hid hr0
                clear hr0
                go_wp2_with fail
                refine HALL.out.mono ?_
                intro e w4 ha
                obtain ⟨⟨E1, e1, E2, e2, rfl, hv4⟩, hb4⟩ := all_step ha HR0.out
                have hA5 := ba (Below.refl w4.heap.size w4) (.cells #[.slice E1 r.1.boxes.length e1, .slice E2 r.1.spool.length e2] 29)
                have hx5 := Has.alloc w4 [.slice E1 r.1.boxes.length e1, .slice E2 r.1.spool.length e2] 29
                obtain ⟨y0, y1, -, -⟩ := hx5.two
                have ho5 := (HO3.out.down hb4).down hA5
                obtain ⟨z0, z1, zf0, zf1⟩ := ho5.two
                have HO5 := Lib.hid ho5; have HV5 := Lib.hid (hv4.down hA5); have HR5 := Lib.hid ((HR3.out.down hb4).down hA5); have HB5 := Lib.hid (bt (bt HB3.out hb4) hA5)
                have hn : Hid (r.1 = foldS bu (bs.take (j + 1))) := by unfold Hid; rw [hst2.out, if_pos HR0.out]
                have hzz := hb4.size
                clear ha hv4 hb4 hA5 hx5 ho5 x0 x1 p0 p1 o0 o1 g0 g1 c0 c1' HALL HX3
                go_wp2_with fail
                go_roundw
                case rel =>
                  have hs := ((HV5.out.else' (R := N9) (i := 0) (u := .slice E1 r.1.boxes.length e1) (by omega)).else' (R := N9) (i := 1) (u := .slice E2 r.1.spool.length e2) (by omega)).sat (F := fun b => w.heap.size < b ∧ b ≠ N9) (fun b hb => ⟨by omega, by omega⟩)
                  exact ⟨j + 1, r.1, E1, e1, E2, e2, hlt, by go_num, hn.out, HGA.out, (HO5.out.set' (i := 0) _ (by simp)).set' (i := 1) _ (by simp), hs.1, hs.2, (HR5.out.else' (by omega) _).else' (by omega) _, (HB5.out.setCell (p := ⟨N9, 0, none⟩) (by show w.heap.size ≤ N9; omega) _).setCell (p := ⟨N9, 1, none⟩) (by show w.heap.size ≤ N9; omega) _⟩
                case measure => simp [intOf]; omega
              · have q : (r.2 == 0) = false := by simpa using hr0
                have HR0 := Lib.hid hr0
                clear hr0
                go_wp2_with fail
                refine HALL.out.mono ?_
                intro e w4 ha
                obtain ⟨rfl, hb4⟩ := all_stay ha HR0.out
                have hA5 := ba (Below.refl w4.heap.size w4) (.cells #[.slice none 0 0, .slice none 0 0] 29)
                have HO5 := Lib.hid ((HO3.out.down hb4).down hA5); have HS15 := Lib.hid ((HS13.out.down hb4).down hA5); have HS25 := Lib.hid ((HS23.out.down hb4).down hA5); have HR5 := Lib.hid ((HR3.out.down hb4).down hA5); have HB5 := Lib.hid (bt (bt HB3.out hb4) hA5)
                have hn : Hid (t = foldS bu (bs.take (j + 1))) := by unfold Hid; rw [hst2.out, if_neg HR0.out]
                clear ha hb4 hA5 x0 x1 p0 p1 o0 o1 g0 g1 c0 c1' HALL HX3
                go_wp2_with fail
                go_roundw
                case rel => exact ⟨j + 1, t, D1, d1, D2, d2, hlt, by go_num, hn.out, HGT.out, HO5.out, HS15.out, HS25.out, HR5.out, HB5.out⟩
                case measure => simp [intOf]; omega
            · have hst2 : Hid (foldS u (bs.take (j + 1)) = t) := by
                unfold Hid; rw [HST.out]; unfold foldStep; rw [if_neg hbu]
              have q : ((bu : Int) == u) = false := by
                rw [beq_eq_false_iff_ne]; intro e; exact hbu (by omega)
              have q2 : ((bu : Int) != u) = true := by rw [bne, q]; rfl
              obtain ⟨x0, x1, -, -⟩ := HX3.out.two
              clear hbu
              go_wp2_with fail
              go_roundw
              case rel => exact ⟨j + 1, t, D1, d1, D2, d2, hlt, by go_num, hst2.out.symm, HGT.out, HO3.out, HS13.out, HS23.out, HR3.out, HB3.out⟩
              case measure => simp [intOf]; omega
          · obtain rfl : j = bs.length := by omega
            have ht : Hid (t = foldS u bs) := by unfold Hid; rw [HT.out, List.take_length]
            obtain ⟨r0, r1, rf0, rf1⟩ := HR.out.two
            have hne : w.heap.size ≠ N9 := by omega
            have HUU := HU3.out
            clear hb HT
            go_wp2_with fail
            refine fold_end rfl rfl rfl HUU (R := w.heap.size) (s := foldS u bs) (G1 := D1) (c1 := d1) (G2 := D2) (c2 := d2) ?_ ?_ ?_ ?_
            · rw [← ht.out]; exact (HR.out.set' (i := 0) _ (by simp)).set' (i := 1) _ (by simp)
            · rw [← ht.out]
              exact (((HS1.out.stable (Same.of_grown (Go.Lib.grownBy_setB (World.grownBy.refl wr (some w.heap.size)) 0 _) (fun b e hb => by have := Option.some.inj e; have := hb.1; omega)) (by simp [World.setCell])).stable (Same.of_grown (Go.Lib.grownBy_setB (World.grownBy.refl _ (some w.heap.size)) 1 _) (fun b e hb => by have := Option.some.inj e; have := hb.1; omega)) (by simp [World.setCell]))).mono (fun b hb => by have := hb.1; omega)
            · rw [← ht.out]
              exact (((HS2.out.stable (Same.of_grown (Go.Lib.grownBy_setB (World.grownBy.refl wr (some w.heap.size)) 0 _) (fun b e hb => by have := Option.some.inj e; have := hb.1; omega)) (by simp [World.setCell])).stable (Same.of_grown (Go.Lib.grownBy_setB (World.grownBy.refl _ (some w.heap.size)) 1 _) (fun b e hb => by have := Option.some.inj e; have := hb.1; omega)) (by simp [World.setCell]))).mono (fun b hb => by have := hb.1; omega)
            · exact (HB.out.setCell (p := ⟨w.heap.size, 0, none⟩) (Nat.le_refl _) _).setCell (p := ⟨w.heap.size, 1, none⟩) (Nat.le_refl _) _
      · have q2 : (3 : Int) ≤ u := by omega
        have HU3 := Lib.hid hu3
        obtain ⟨r0, r1, rf0, rf1⟩ := HR.out.two
        clear hR hb hu3
        go_wp2_with fail
        refine fold_end0 rfl rfl rfl HU3.out (R := w.heap.size) ?_ ?_
        · exact (HR.out.set' (i := 0) _ (by simp)).set' (i := 1) _ (by simp)
        · exact (HB.out.setCell (p := ⟨w.heap.size, 0, none⟩) (Nat.le_refl _) _).setCell (p := ⟨w.heap.size, 1, none⟩) (Nat.le_refl _) _
end Go.Proofs.YtaeejmggmgejcaaDoor
namespace Go.Proofs.YtaeejmggmgejcaaDoor
open Go.RowKit

set_option maxHeartbeats 8000000 in
set_option maxRecDepth 20000 in
theorem same_any (s : St) (v1 u1 v2 u2 : Value) (F1 F2 : Dom) (w : World) (h1 : SAt cBox w F1 v1 s.boxes) (k1 : SAt cEnt w F1 u1 s.spool) (h2 : SAt cBox w F2 v2 s.boxes) (k2 : SAt cEnt w F2 u2 s.spool) (hl : s.boxes.length ≤ 1000) (hsl : s.spool.length ≤ 1000) (hml : ∀ b ∈ s.boxes, b.mails.length ≤ 1000) :
    Calls Tryd.prog 8 #[.agg #[v1, u1], .agg #[v2, u2]] w fun e w' => e = .returned (.bool true) ∧ Below w.heap.size w w' := by
  obtain ⟨G1, c1, rfl, hc1⟩ := h1.form
  obtain ⟨G2, c2, rfl, hc2⟩ := h2.form
  obtain ⟨D1, d1, rfl, hd1⟩ := k1.form
  obtain ⟨D2, d2, rfl, hd2⟩ := k2.form
  have hA := ba (ba (Below.refl w.heap.size w) (.cells #[.slice G1 s.boxes.length c1, .slice D1 s.spool.length d1] 29)) (.cells #[.slice G2 s.boxes.length c2, .slice D2 s.spool.length d2] 29)
  have hX := (Has.alloc w [.slice G1 s.boxes.length c1, .slice D1 s.spool.length d1] 29).down (ba (Below.refl _ _) (.cells #[.slice G2 s.boxes.length c2, .slice D2 s.spool.length d2] 29))
  have hY := Has.alloc (w.alloc (.cells #[.slice G1 s.boxes.length c1, .slice D1 s.spool.length d1] 29)) [.slice G2 s.boxes.length c2, .slice D2 s.spool.length d2] 29
  simp only [World.size_alloc] at hY
  have H1 := Lib.hid (h1.down hA); have H2 := Lib.hid (h2.down hA); have K1 := Lib.hid (k1.down hA); have K2 := Lib.hid (k2.down hA); have HML := Lib.hid hml
  have HA := Lib.hid hA; have HX := Lib.hid hX; have HY := Lib.hid hY
  clear h1 h2 k1 k2 hml hA hX hY
  go_enter Tryd.func8, Tryd.ntmps8
  go_wp2_with fail
  obtain ⟨W0, hW0⟩ : ∃ W0, W0 = (w.alloc (.cells #[.slice G1 s.boxes.length c1, .slice D1 s.spool.length d1] 29)).alloc (.cells #[.slice G2 s.boxes.length c2, .slice D2 s.spool.length d2] 29) := ⟨_, rfl⟩
  rw [← hW0] at H1 H2 K1 K2 HA HX HY ⊢
  clear hW0
  go_loopw [5] (fun i wr => ∃ j : Nat, j ≤ s.spool.length ∧ i = .int .i64 j ∧ Below W0.heap.size W0 wr) (fun i _ => s.spool.length - (intOf i).toNat)
  case atStart => exact ⟨0, Nat.zero_le _, rfl, Below.refl _ _⟩
  case round =>
    obtain ⟨j, hj, rfl, hb⟩ := hrel
    obtain ⟨x0, x1, -, -⟩ := (HX.out.down hb).two
    obtain ⟨y0, y1, -, -⟩ := (HY.out.down hb).two
    by_cases hlt : j < s.spool.length
    · obtain ⟨g, off, rfl, hF, hg, m0, m1, m2, m3, m4, m5⟩ := ent_get K1.out hb j hlt
      obtain ⟨g', off', rfl, hF', hg', n0, n1, n2, n3, n4, n5⟩ := ent_get K2.out hb j hlt
      generalize s.spool[j] = x at m0 m1 m2 m3 m4 m5 n0 n1 n2 n3 n4 n5
      go_wp2_with fail
      go_quiet (fail)
      have HB := Lib.hid (bt hb (below_drewN wr nq))
      clear x0 x1 y0 y1 m0 m1 m2 m3 m4 m5 n0 n1 n2 n3 n4 n5 hb
      go_wp2_with fail
      go_roundw
      case rel => exact ⟨j + 1, hlt, by go_num, HB.out⟩
      case measure => simp [intOf]; omega
    · obtain rfl : j = s.spool.length := by omega
      obtain ⟨wo, rfl⟩ : ∃ wo : World, wo = wr := ⟨_, rfl⟩
      have HBO := Lib.hid hb
      clear hb
      go_wp2_with fail
      clear x0 x1 y0 y1
      go_loopw [6] (fun i wr => ∃ j : Nat, j ≤ s.boxes.length ∧ i = .int .i64 j ∧ Below W0.heap.size W0 wr) (fun i _ => s.boxes.length - (intOf i).toNat)
      case atStart => exact ⟨0, Nat.zero_le _, rfl, HBO.out⟩
      case round =>
        obtain ⟨wp, rfl⟩ : ∃ wp : World, wp = wr := ⟨_, rfl⟩
        obtain ⟨k, hk, rfl, hb⟩ := hrel
        obtain ⟨x0, x1, -, -⟩ := (HX.out.down hb).two
        obtain ⟨y0, y1, -, -⟩ := (HY.out.down hb).two
        by_cases hlk : k < s.boxes.length
        · obtain ⟨g, off, a, c, rfl, hF, hg, hac, hm, p0, p1, p2⟩ := box_get H1.out hb k hlk
          obtain ⟨g', off', a', c', rfl, hF', hg', hac', hm', q0, q1, q2⟩ := box_get H2.out hb k hlk
          have hmk := HML.out s.boxes[k] (List.getElem_mem _)
          generalize s.boxes[k] = b at hac hm p0 p1 p2 hac' hm' q0 q1 q2 hmk
          have hA1 := ba (Below.refl wp.heap.size wp) (.cells #[.string ⟨b.name.toArray⟩, .int .i64 b.next, .slice a b.mails.length c] 52)
          have hA2 := ba hA1 (.cells #[.string ⟨b.name.toArray⟩, .int .i64 b.next, .slice a' b.mails.length c'] 52)
          have hP := (Has.alloc wp [.string ⟨b.name.toArray⟩, .int .i64 b.next, .slice a b.mails.length c] 52).down (ba (Below.refl _ _) (.cells #[.string ⟨b.name.toArray⟩, .int .i64 b.next, .slice a' b.mails.length c'] 52))
          have hQ := Has.alloc (wp.alloc (.cells #[.string ⟨b.name.toArray⟩, .int .i64 b.next, .slice a b.mails.length c] 52)) [.string ⟨b.name.toArray⟩, .int .i64 b.next, .slice a' b.mails.length c'] 52
          simp only [World.size_alloc] at hQ
          have HP := Lib.hid hP; have HQ := Lib.hid hQ; have HB2 := Lib.hid (bt hb hA2); have HM := Lib.hid (hm.down hA2); have HM' := Lib.hid (hm'.down hA2)
          have q0' := moved q0 hA1 (Nat.le_refl _); have q1' := moved q1 hA1 (Nat.le_refl _); have q2' := moved q2 hA1 (Nat.le_refl _); have y0' := moved y0 hA1 (Nat.le_refl _)
          clear hA1 hA2 hP hQ hb hm hm' q0 q1 q2
          go_wp2_with fail
          obtain ⟨W1, hW1⟩ : ∃ W1, W1 = (wp.alloc (.cells #[.string ⟨b.name.toArray⟩, .int .i64 b.next, .slice a b.mails.length c] 52)).alloc (.cells #[.string ⟨b.name.toArray⟩, .int .i64 b.next, .slice a' b.mails.length c'] 52) := ⟨_, rfl⟩
          rw [← hW1] at HP HQ HB2 HM HM' ⊢
          clear hW1 p0 p1 p2 q0' q1' q2' y0' x0 x1 y0 y1
          go_loopw [9] (fun i wr => ∃ r : Nat, r ≤ b.mails.length ∧ i = .int .i64 r ∧ Below W1.heap.size W1 wr) (fun i _ => b.mails.length - (intOf i).toNat)
          case atStart => exact ⟨0, Nat.zero_le _, rfl, Below.refl _ _⟩
          case round =>
            obtain ⟨r, hr, rfl, hbr⟩ := hrel
            have z2 := (HP.out.down hbr).1 2 _ rfl
            have t2 := (HQ.out.down hbr).1 2 _ rfl
            by_cases hlr : r < b.mails.length
            · obtain ⟨gm, om, rfl, _, hgm, m0, m1, m2⟩ := mail_get HM.out hbr r hlr
              obtain ⟨gn, on, rfl, _, hgn, n0, n1, n2⟩ := mail_get HM'.out hbr r hlr
              generalize b.mails[r] = m at m0 m1 m2 n0 n1 n2
              go_wp2_with fail
              go_quiet (fail)
              have HB := Lib.hid (bt hbr (below_drewN wr nq))
              clear z2 t2 m0 m1 m2 n0 n1 n2 hbr
              go_wp2_with fail
              go_roundw
              case rel => exact ⟨r + 1, hlr, by go_num, HB.out⟩
              case measure => simp [intOf]; omega
            · obtain rfl : r = b.mails.length := by omega
              have HBR := Lib.hid (bt HB2.out hbr)
              clear hbr
              go_wp2_with fail
              go_roundw
              case rel => exact ⟨k + 1, hlk, by go_num, HBR.out⟩
              case measure => simp [intOf]; omega
        · obtain rfl : k = s.boxes.length := by omega
          have HBF := Lib.hid (bt HA.out hb)
          clear hb
          go_wp2_with fail
          go_ret
          exact ⟨rfl, HBF.out⟩
end Go.Proofs.YtaeejmggmgejcaaDoor
namespace Go.Proofs.YtaeejmggmgejcaaDoor
open Go.RowKit

theorem has_row {w w' : World} {b : Nat} {vs : List Value} {row : Option Nat} (h : Has w b vs) (hg : w.grownBy w' row) (hne : some b ≠ row) : Has w' b vs :=
  ⟨fun i u hi => hg.cell (h.1 i u hi) hne, fun i hi => (hg.frozen_far _ h.2.2 hne).trans (h.2.1 i hi), Nat.lt_of_lt_of_le h.2.2 hg.size⟩
/-- where the state's parts lie: not in its variable, not in the row -/
def FpD (S7 : Nat) (mv : Value) (wr : World) : Dom := fun b => b ≠ S7 ∧ mv.ownBlock ≠ some b ∧ b < wr.heap.size
theorem fold_ok {u : Nat} {s : St} {w : World} {e : Ending} {w' : World} (h : FoldPost u s w e w') (hu : u < 3) : (∃ G1 c1 G2 c2, e = .returned (.tuple #[.agg #[.slice G1 s.boxes.length c1, .slice G2 s.spool.length c2], .int .i64 0]) ∧ SAt cBox w' (fun b => w.heap.size ≤ b) (.slice G1 s.boxes.length c1) s.boxes ∧ SAt cEnt w' (fun b => w.heap.size ≤ b) (.slice G2 s.spool.length c2) s.spool) ∧ Below w.heap.size w w' := by
  unfold FoldPost at h; rwa [if_pos hu] at h
theorem fold_out {s : St} {w : World} {e : Ending} {w' : World} (h : FoldPost 3 s w e w') : e = .returned (.tuple #[.agg #[.slice none 0 0, .slice none 0 0], .int .i64 6]) ∧ Below w.heap.size w w' := by
  unfold FoldPost at h; rwa [if_neg (by decide)] at h
theorem bats_nil (w : World) : BatsAt w (.slice none 0 0) [] := ⟨none, 0, rfl, Nat.le_refl _, fun i b hi => by simp at hi⟩
theorem BRow.shape {w : World} {base : Nat} {v : Value} {ps : List BV} (h : BRow w base v ps) : ∃ G cap, v = .slice G ps.length cap := by
  obtain ⟨G, cap, hv, -, -⟩ := h.bats
  rw [List.length_map] at hv
  exact ⟨G, cap, hv⟩
theorem wp_named {P : Program} {c : Code} {Q : Exit → Act → World → Prop} {a : Act} {W : World} (R : World → Prop) (hR : R W) (h : ∀ W, R W → c.wp P Q a W) : c.wp P Q a W := h W hR
/-- at the head of each round -/
def FpRel (u S7 : Nat) (bs : List Bat) (w1 : World) (mv iv : Value) (wr : World) : Prop := ∃ (j : Nat) (ps : List BV) (t : St) (G1 : Option Addr) (c1 : Nat) (G2 : Option Addr) (c2 : Nat), j ≤ bs.length ∧ iv = .int .i64 j ∧ BRow wr (S7 + 1) mv ps ∧ ps.map Prod.fst = mineS u (bs.take j) ∧ t = foldS u (bs.take j) ∧ GoodS t ∧
  Has wr S7 [.slice G1 t.boxes.length c1, .slice G2 t.spool.length c2] ∧ SAt cBox wr (FpD S7 mv wr) (.slice G1 t.boxes.length c1) t.boxes ∧ SAt cEnt wr (FpD S7 mv wr) (.slice G2 t.spool.length c2) t.spool ∧ Below w1.heap.size w1 wr

set_option maxHeartbeats 8000000 in
set_option maxRecDepth 20000 in
theorem foldParts_any (a : Option Addr) (cap : Nat) (cs : List Raw) (user m : Int) (w : World) (h : RawsAt w a cs) (hlen : cs.length ≤ 9223372036854775807) (hcap : cs.length ≤ cap) (hu : Int64 user) (hm : w.cell? ⟨0, 0, none⟩ = some (.int .i64 m)) :
    Calls Tryd.prog 3 #[.slice a cs.length cap, .int .i64 user] w fun e w' => e = .returned (.bool true) ∧ Below w.heap.size w w' := by
  have HP : Hid (∀ w, Calls Tryd.prog 5 #[.int .i64 user, .int .i64 3] w fun e w' => e = .returned (.int .i64 (pick user (3 : Nat))) ∧ w = w') := fun w => picked_any user 3 w hu.1 hu.2 (by omega) (by omega)
  have hu3 := pick_lt user 3 (by omega)
  generalize pick user (3 : Nat) = u at HP hu3
  have HBO := Lib.hid (batchesOf_any a cap cs w h hlen hcap)
  have HM := Lib.hid hm
  obtain ⟨i0, hi, hz0, hz1, hz2⟩ := info_parts infoBat
  have HI := Lib.hid hi; have HZ0 := Lib.hid hz0; have HZ1 := Lib.hid hz1; have HZ2 := Lib.hid hz2
  clear hi hz0 hz1 hz2 h hm hu
  go_enter Tryd.func3, Tryd.ntmps3
  go_wp2_with fail
  refine HBO.out.mono ?_
  rintro e w1 ⟨⟨v, bs, rfl, hbs, hbl, hok⟩, hb1⟩
  have HBS := Lib.hid hbs; have HOK := Lib.hid hok; have HB1 := Lib.hid hb1
  obtain ⟨G, cp, rfl, hcp, -⟩ := id hbs
  clear hbs hok hb1 HBO
  go_wp2_with fail
  refine (HP.out _).mono ?_
  rintro e w' ⟨rfl, rfl⟩
  have HF0 := Lib.hid (fold_any u [] (.slice none 0 0) m w1 (bats_nil _) (fun b hb => by cases hb) (by simp) (by omega) (moved HM.out HB1.out (Nat.le_refl _)))
  have HU3 := Lib.hid hu3
  go_wp2_with fail
  refine HF0.out.mono ?_
  intro e w2 h2
  obtain ⟨⟨G1, c1, G2, c2, rfl, hs1, hs2⟩, hb2⟩ := fold_ok h2 HU3.out
  have e0 : foldS u [] = st0 := rfl
  rw [e0] at hs1 hs2 ⊢
  have hA3 := ba (Below.refl w2.heap.size w2) (.cells #[.slice G1 st0.boxes.length c1, .slice G2 st0.spool.length c2] 29)
  have hS7 := Has.alloc w2 [.slice G1 st0.boxes.length c1, .slice G2 st0.spool.length c2] 29
  have hd1 : SAt cBox (w2.alloc (.cells #[.slice G1 st0.boxes.length c1, .slice G2 st0.spool.length c2] 29)) (FpD w2.heap.size (.slice none 0 0) (w2.alloc (.cells #[.slice G1 st0.boxes.length c1, .slice G2 st0.spool.length c2] 29))) (.slice G1 st0.boxes.length c1) st0.boxes :=
    ((box_lt hs1).mono (F' := FpD w2.heap.size (.slice none 0 0) (w2.alloc (.cells #[.slice G1 st0.boxes.length c1, .slice G2 st0.spool.length c2] 29))) (fun b hb => ⟨by omega, (fun e => by cases e), by rw [World.size_alloc]; omega⟩)).down hA3
  have hd2 : SAt cEnt (w2.alloc (.cells #[.slice G1 st0.boxes.length c1, .slice G2 st0.spool.length c2] 29)) (FpD w2.heap.size (.slice none 0 0) (w2.alloc (.cells #[.slice G1 st0.boxes.length c1, .slice G2 st0.spool.length c2] 29))) (.slice G2 st0.spool.length c2) st0.spool :=
    ((flat_lt hs2).mono (F' := FpD w2.heap.size (.slice none 0 0) (w2.alloc (.cells #[.slice G1 st0.boxes.length c1, .slice G2 st0.spool.length c2] 29))) (fun b hb => ⟨by omega, (fun e => by cases e), by rw [World.size_alloc]; omega⟩)).down hA3
  have hw3 := bt hb2 hA3
  have hz2 := hb2.size
  have HS7 := Lib.hid hS7; have HD1 := Lib.hid hd1; have HD2 := Lib.hid hd2; have HW3 := Lib.hid hw3
  clear hs1 hs2 h2 hA3 hS7 hd1 hd2 hw3 hb2 HF0 e0
  go_wp2_with fail
  obtain ⟨S7, hS⟩ : ∃ S7, S7 = w2.heap.size := ⟨_, rfl⟩
  obtain ⟨W3, hW⟩ : ∃ W3, W3 = w2.alloc (.cells #[.slice G1 st0.boxes.length c1, .slice G2 st0.spool.length c2] 29) := ⟨_, rfl⟩
  rw [← hS] at HS7 HD1 HD2 hz2 ⊢
  rw [← hW] at HS7 HD1 HD2 HW3 ⊢
  clear hS hW
  go_loopw [9, 10] (FpRel u S7 bs w1) (fun _ i _ => bs.length - (intOf i).toNat)
  case atStart => exact ⟨0, [], st0, G1, c1, G2, c2, Nat.zero_le _, rfl, BRow.nil _ _, rfl, rfl, st0_good, HS7.out, HD1.out, HD2.out, HW3.out⟩
  case round =>
    obtain ⟨j, ps, t, D1, d1, D2, d2, hj, rfl, hrow, hps, ht, hgt, hO, hS1, hS2, hb⟩ := hrel
    clear HS7 HD1 HD2 HW3
    obtain ⟨Gm, cm, rfl⟩ := BRow.shape hrow
    have hpl : ps.length ≤ 26 := by
      have h1 := congrArg List.length hps
      rw [List.length_map] at h1
      have h2 := mine_len u (bs.take j)
      rw [List.length_take] at h2
      omega
    have hsz : w1.heap.size ≤ wr.heap.size := hb.size
    have hSr : S7 < wr.heap.size := hO.2.2
    have HROW := Lib.hid hrow; have HPS := Lib.hid hps; have HT := Lib.hid ht; have HGT := Lib.hid hgt; have HO := Lib.hid hO; have HS1 := Lib.hid hS1; have HS2 := Lib.hid hS2; have HB := Lib.hid hb
    clear hrow hps ht hgt hO hS1 hS2
    by_cases hlt : j < bs.length
    · obtain ⟨g, Ge, ce, rfl, hg, kk0, kk1, he1⟩ := bat_get HBS.out (Below.refl _ _) j hlt
      have hgood := bcheck_inv (HOK.out _ (List.getElem_mem hlt)).1
      have hst := fold_take u bs j hlt
      have hmt := mine_take u bs j hlt
      rw [← HT.out] at hst
      generalize bs[j] = b at kk0 kk1 he1 hgood hst hmt
      obtain ⟨bu, xs⟩ := b
      simp only at kk0 kk1 he1 hgood hmt
      have b0 := moved kk0 hb (Nat.le_refl _)
      have b1 := moved kk1 hb (Nat.le_refl _)
      have he := he1.down hb
      have HK1 := Lib.hid kk1; have HE1 := Lib.hid he1
      have hgr : g < wr.heap.size := Nat.lt_of_lt_of_le hg hb.size
      have HGD := Lib.hid hgood; have HST := Lib.hid hst; have HMT := Lib.hid hmt; have HE := Lib.hid he
      clear hgood hst hmt he hb kk0 kk1 he1
      by_cases hbu : bu = u
      · subst hbu
        have hst2 : Hid (foldS bu (bs.take (j + 1)) = if (allS t xs).2 = 0 then (allS t xs).1 else t) := by
          unfold Hid; rw [HST.out]; unfold foldStep; rw [if_pos rfl]
        have hmt2 : Hid (mineS bu (bs.take (j + 1)) = ps.map Prod.fst ++ [(bu, xs)]) := by
          unfold Hid; rw [HMT.out, if_pos rfl, HPS.out]
        have hal := ba (Below.refl wr.heap.size wr) (.cells #[.int .i64 bu, .slice Ge xs.length ce] 34)
        have hrow3 := HROW.out.down hal
        have HROW3 := Lib.hid hrow3; have HV3 := Lib.hid (HE.out.down hal); have HB3 := Lib.hid (bt HB.out hal); have HO3 := Lib.hid (HO.out.down hal); have HS13 := Lib.hid (HS1.out.down hal); have HS23 := Lib.hid (HS2.out.down hal)
        clear hrow3 hal HO HS1 HS2 HB HE HROW
        go_wp2_with (at_builtin; refine wpList_append_lies _ (by rfl) _ _ _ (by rfl) (S7 + 1) 34 i0 _ 2 32 Tryd.underlying23 HI.out HZ0.out HZ1.out HZ2.out rfl (by omega) (.slice Gm ps.length cm) ps.length (pcells ps) (by rfl) HROW3.out.1 ⟨wr.heap.size, 0, none⟩ 1 1 [.int .i64 bu, .slice Ge xs.length ce] (by rfl) (by rfl) (news_of wr _ _) (by simp [Value.oneCell']) (by omega) (by unfold maxLen; omega) (by omega) (by simp; omega) (wr.heap.size + 1) (by simp) ?_)
        intro g5 cap5 w5 hown5 hgrow5 hat5 hlt5
        have hrow5 := BRow.snoc HROW3.out HV3.out (b := (bu, xs)) hown5 hgrow5
        have ho5 := has_row HO3.out hgrow5 (fun e => by have := (HROW3.out.1.lt S7 e.symm).1; omega)
        have hb5 := below_row HB3.out (Nat.le_refl _) HROW3.out.1 (by omega : w1.heap.size ≤ S7 + 1) hgrow5
        have hz5 : wr.heap.size ≤ w5.heap.size := by have := hgrow5.size; rw [World.size_alloc] at this; omega
        have hFF : ∀ b, FpD S7 (.slice Gm ps.length cm) wr b → FpD S7 (.slice (some ⟨g5, 0, none⟩) (ps.length + 1) cap5) w5 b := fun b hb => ⟨hb.1, fun e => by
          have e' : g5 = b := Option.some.inj e
          rcases hat5 with h | h
          · exact hb.2.1 (by rw [h, e'])
          · have := hb.2.2; omega, by have := hb.2.2; omega⟩
        have hs15 := (HS13.out.stable (Same.of_grown hgrow5 (fun b e hF => hF.2.1 e)) hgrow5.size).mono hFF
        have hs25 := (HS23.out.stable (Same.of_grown hgrow5 (fun b e hF => hF.2.1 e)) hgrow5.size).mono hFF
        have HROW5 := Lib.hid hrow5; have HO5 := Lib.hid ho5; have HB5 := Lib.hid hb5; have HS15 := Lib.hid hs15; have HS25 := Lib.hid hs25
        have HE5 := Lib.hid (HE1.out.down hb5).sat
        have hg5 : g5 < w5.heap.size := hlt5
        have hS75 : S7 < w5.heap.size := by omega
        have m1 := moved HK1.out hb5 (Nat.le_refl _)
        obtain ⟨o0, o1, -, -⟩ := ho5.two
        have HELD : Hid (∀ w', Below w5.heap.size w5 w' → w'.cell? ⟨S7, 0, none⟩ = some (.slice D1 t.boxes.length d1) ∧ w'.cell? ⟨S7, 1, none⟩ = some (.slice D2 t.spool.length d2) ∧ w'.cell? ⟨g, j * 2 + 1, none⟩ = some (.slice Ge xs.length ce)) := fun w' h => ⟨moved o0 h (Nat.le_refl _), moved o1 h (Nat.le_refl _), moved m1 h (Nat.le_refl _)⟩
        have hH : Hid (∀ w' : World, Has (w'.alloc (.cells #[.slice none 0 0, .slice none 0 0] 29)) w'.heap.size [.slice none 0 0, .slice none 0 0]) := fun w' => Has.alloc w' [.slice none 0 0, .slice none 0 0] 29
        have HALL : Hid (∀ w', Below w5.heap.size w5 w' → Calls Tryd.prog 7 #[.agg #[.slice D1 t.boxes.length d1, .slice D2 t.spool.length d2], .slice Ge xs.length ce] w' (AllPost (allS t xs) w')) := fun w' hb' => all_any (F := fun _ => True) t xs _ _ _ m w' ((HS15.out.down hb').mono (fun _ _ => trivial)) ((HS25.out.down hb').mono (fun _ _ => trivial)) HGT.out (HE5.out.down hb') HGD.out.2.1.2 (fun x hx => small_of_form (HGD.out.2.2 x hx)) (moved HM.out (bt HB1.out (bt HB5.out hb')) (Nat.le_refl _))
        have HGA := Lib.hid (allS_good xs t HGT.out HGD.out.2.2)
        obtain ⟨r, hr⟩ : ∃ r, r = allS t xs := ⟨_, rfl⟩
        rw [← hr] at hst2 HALL HGA
        have hdr := Below.drew (Below.refl w5.heap.size w5)
        clear hr hrow5 ho5 hb5 hs15 hs25 hFF hown5 hgrow5 hat5 hlt5 b0 b1 HROW3 HO3 HB3 HS13 HS23 HV3
        go_upto_region 10 with fail
        by_cases hr0 : r.2 = 0
        · have HALL2 : Hid (∀ w', Below w5.heap.size w5 w' → Calls Tryd.prog 7 #[.agg #[.slice D1 t.boxes.length d1, .slice D2 t.spool.length d2], .slice Ge xs.length ce] w' fun e w'' => (∃ G1 c1 G2 c2, e = .returned (.tuple #[.agg #[.slice G1 r.1.boxes.length c1, .slice G2 r.1.spool.length c2], .int .i64 0]) ∧ OwnV w'' w'.heap.size (.slice G1 r.1.boxes.length c1) (.slice G2 r.1.spool.length c2) r.1) ∧ Below w'.heap.size w' w'') := fun w' hb' => (HALL.out w' hb').mono fun e w'' h => all_step h hr0
          have HR0 := Lib.hid hr0
          clear hr0 HALL
          go_cut [11, 12] (ApNew r w5)
          case first =>
            go_region_held3 (fun w' => w'.cell? ⟨S7, 0, none⟩ = some (.slice D1 t.boxes.length d1) ∧ w'.cell? ⟨S7, 1, none⟩ = some (.slice D2 t.spool.length d2) ∧ w'.cell? ⟨g, j * 2 + 1, none⟩ = some (.slice Ge xs.length ce)) (first | exact HELD.out _ hdr | exact HELD.out _ (ba hdr _) | exact HELD.out _ hd4 | exact HELD.out _ (ba hd4 _) | exact HELD.out _ ((hd4.setCell (p := ⟨w5.heap.size, 0, none⟩) (Nat.le_refl _) _).setCell (p := ⟨w5.heap.size, 1, none⟩) (Nat.le_refl _) _) | go_keep) ((go_at_call 7; refine (HALL2.out _ (by first | exact hdr | exact ba hdr _)).mono ?_; rintro e w4 ⟨⟨E1, e1, E2, e2, rfl, hv4⟩, hb4⟩; first | (have kk : Has w4 w5.heap.size [.slice none 0 0, .slice none 0 0] := (hH.out w5.drew).down hb4; obtain ⟨k0, k1, k2, k3⟩ := kk.two; have hd4 : Below w5.heap.size w5 w4 := bt (ba hdr _) hb4) | (have kk := trivial; have hd4 : Below w5.heap.size w5 w4 := bt hdr hb4)))
            all_goals
              go_wp2_with fail
              go_meet
              case rel =>
                try rw [show (Value.int .i64 0) = .int .i64 r.2 by rw [HR0.out]]
                first
                  | exact ap_new hd4 (Nat.le_refl _) (fun _ => ⟨_, _, _, _, rfl, rfl, hv4⟩)
                  | exact ap_at hd4 (Nat.le_refl _) (by simp) kk (fun _ => ⟨_, _, _, _, rfl, rfl, hv4⟩)
          case rest =>
            obtain ⟨R, B, rfl, rfl, hR9, hB9, hb9, hRz9, hh9⟩ := hcut
            obtain ⟨E1, e1, E2, e2, hx9, hv9⟩ := hh9 HR0.out
            obtain ⟨x0, x1, -, -⟩ := hx9.two
            have ho9 := HO5.out.down hb9
            obtain ⟨y0, y1, yf0, yf1⟩ := ho9.two
            have q : (r.2 == 0) = true := by have := HR0.out; simpa using this
            have HO9 := Lib.hid ho9; have HV9 := Lib.hid hv9; have HROW9 := Lib.hid (HROW5.out.down hb9); have HB9 := Lib.hid (bt HB5.out hb9)
            have hn : Hid (r.1 = foldS bu (bs.take (j + 1))) := by unfold Hid; rw [hst2.out, if_pos HR0.out]
            have hzz := hb9.size
            have hy1 : ∀ s, wc.cell? ⟨S7, 1, none⟩ ≠ some (.string s) := fun s e => by rw [y1] at e; cases e
            have HY1 := Lib.hid hy1
            clear hx9 ho9 hv9 hb9 hh9 o0 o1 m1 hdr HALL2 HELD hy1
            go_wp2_with fail
            go_roundw
            case rel =>
              have hs := ((HV9.out.else' (R := S7) (i := 0) (u := .slice E1 r.1.boxes.length e1) (by omega)).else' (R := S7) (i := 1) (u := .slice E2 r.1.spool.length e2) (by omega)).sat (F := fun b => B ≤ b) (fun b hb => hb)
              refine ⟨j + 1, ps ++ [((bu, xs), .slice Ge xs.length ce)], r.1, E1, e1, E2, e2, hlt, by go_num, ?_, ?_, hn.out, HGA.out, (HO9.out.set' (i := 0) _ (by simp)).set' (i := 1) _ (by simp), ?_, ?_, (HB9.out.setCell (p := ⟨S7, 0, none⟩) (by show w1.heap.size ≤ S7; omega) _).setCell (p := ⟨S7, 1, none⟩) (by show w1.heap.size ≤ S7; omega) _⟩
              · exact (HROW9.out.set (by omega) HY1.out).set (by omega) (fun s e => by
                  have h2 := ((HO9.out.set' (i := 0) (.slice E1 r.1.boxes.length e1) (by simp)).1 1 _ rfl)
                  rw [h2] at e; cases e)
              · rw [List.map_append]; exact hmt2.out.symm
              · exact (box_lt hs.1).mono (fun b hb => ⟨by have := hb.1; omega, (fun e => by have e' : g5 = b := Option.some.inj e; have := hb.1; omega), hb.2⟩)
              · exact (flat_lt hs.2).mono (fun b hb => ⟨by have := hb.1; omega, (fun e => by have e' : g5 = b := Option.some.inj e; have := hb.1; omega), hb.2⟩)
            case measure => simp [intOf]; omega
        · have HALL2 : Hid (∀ w', Below w5.heap.size w5 w' → Calls Tryd.prog 7 #[.agg #[.slice D1 t.boxes.length d1, .slice D2 t.spool.length d2], .slice Ge xs.length ce] w' fun e w'' => e = .returned (.tuple #[.agg #[.slice none 0 0, .slice none 0 0], .int .i64 r.2]) ∧ Below w'.heap.size w' w'') := fun w' hb' => (HALL.out w' hb').mono fun e w'' h => all_stay h hr0
          have HR0 := Lib.hid hr0
          clear hr0 HALL
          go_cut [11, 12] (ApNew r w5)
          case first =>
            go_region_held3 (fun w' => w'.cell? ⟨S7, 0, none⟩ = some (.slice D1 t.boxes.length d1) ∧ w'.cell? ⟨S7, 1, none⟩ = some (.slice D2 t.spool.length d2) ∧ w'.cell? ⟨g, j * 2 + 1, none⟩ = some (.slice Ge xs.length ce)) (first | exact HELD.out _ hdr | exact HELD.out _ (ba hdr _) | exact HELD.out _ hd4 | exact HELD.out _ (ba hd4 _) | exact HELD.out _ ((hd4.setCell (p := ⟨w5.heap.size, 0, none⟩) (Nat.le_refl _) _).setCell (p := ⟨w5.heap.size, 1, none⟩) (Nat.le_refl _) _) | go_keep) ((go_at_call 7; refine (HALL2.out _ (by first | exact hdr | exact ba hdr _)).mono ?_; rintro e w4 ⟨rfl, hb4⟩; first | (have kk : Has w4 w5.heap.size [.slice none 0 0, .slice none 0 0] := (hH.out w5.drew).down hb4; obtain ⟨k0, k1, k2, k3⟩ := kk.two; have hd4 : Below w5.heap.size w5 w4 := bt (ba hdr _) hb4) | (have kk := trivial; have hd4 : Below w5.heap.size w5 w4 := bt hdr hb4)))
            all_goals
              go_wp2_with fail
              go_meet
              case rel => first
                | exact ap_new (B := w5.heap.size) hd4 (Nat.le_refl _) (fun h => absurd h HR0.out)
                | exact ap_at (B := w5.heap.size + 1) hd4 (Nat.le_refl _) (by omega) kk (fun h => absurd h HR0.out)
          case rest =>
            obtain ⟨R, B, rfl, rfl, hR9, hB9, hb9, hRz9, hh9⟩ := hcut
            have q : (r.2 == 0) = false := by have := HR0.out; simpa using this
            have HO9 := Lib.hid (HO5.out.down hb9); have HS19 := Lib.hid (HS15.out.down hb9); have HS29 := Lib.hid (HS25.out.down hb9); have HROW9 := Lib.hid (HROW5.out.down hb9); have HB9 := Lib.hid (bt HB5.out hb9)
            have hn : Hid (t = foldS bu (bs.take (j + 1))) := by unfold Hid; rw [hst2.out, if_neg HR0.out]
            have hzz := hb9.size
            clear hb9 hh9 o0 o1 m1 hdr HALL2 HELD
            go_wp2_with fail
            go_roundw
            case rel =>
              refine ⟨j + 1, ps ++ [((bu, xs), .slice Ge xs.length ce)], t, D1, d1, D2, d2, hlt, by go_num, HROW9.out, ?_, hn.out, HGT.out, HO9.out, ?_, ?_, HB9.out⟩
              · rw [List.map_append]; exact hmt2.out.symm
              · exact HS19.out.mono (fun b hb => ⟨hb.1, hb.2.1, by have := hb.2.2; omega⟩)
              · exact HS29.out.mono (fun b hb => ⟨hb.1, hb.2.1, by have := hb.2.2; omega⟩)
            case measure => simp [intOf]; omega
      · have hst2 : Hid (foldS u (bs.take (j + 1)) = t) := by
          unfold Hid; rw [HST.out]; unfold foldStep; rw [if_neg hbu]
        have hmt2 : Hid (ps.map Prod.fst = mineS u (bs.take (j + 1))) := by
          unfold Hid; rw [HMT.out, if_neg hbu]; exact HPS.out
        have q : ((bu : Int) == u) = false := by
          rw [beq_eq_false_iff_ne]; intro e; exact hbu (by omega)
        have q2 : ((bu : Int) != u) = true := by rw [bne, q]; rfl
        clear hbu
        go_wp2_with fail
        go_roundw
        case rel => exact ⟨j + 1, ps, t, D1, d1, D2, d2, hlt, by go_num, HROW.out, hmt2.out, hst2.out.symm, HGT.out, HO.out, HS1.out, HS2.out, HB.out⟩
        case measure => simp [intOf]; omega
    · obtain rfl : j = bs.length := by omega
      have hT : foldS u bs = t := by rw [HT.out, List.take_length]
      have hpm : ps.map Prod.fst = mineS u bs := by rw [HPS.out, List.take_length]
      have hT2 : foldS u (ps.map Prod.fst) = t := by rw [hpm, foldS_mine, hT]
      have hgm : ∀ b ∈ ps.map Prod.fst, GoodB b := by rw [hpm]; exact mine_good (fun b hb => (HOK.out b hb).1)
      have hpos : 0 < t.boxes.length := by rw [← hT]; exact foldS_pos u bs
      have hg5 := HGT.out.boxes; have hg20 := HGT.out.spool
      have hg30 := Lib.hid (show ∀ b ∈ t.boxes, b.mails.length ≤ 1000 from fun b hb => by have := (HGT.out.ok b hb).2.2.2.1; omega)
      have HF1 : Hid (∀ w', Below wr.heap.size wr w' → Calls Tryd.prog 6 #[.slice G bs.length cp, .int .i64 u] w' (FoldPost u t w')) := fun w' hb' => by
        have := fold_any u bs (.slice G bs.length cp) m w' ((HBS.out.down HB.out).down hb') (fun b hb => (HOK.out b hb).1) (by omega) (by omega) (moved HM.out (bt HB1.out (bt HB.out hb')) (Nat.le_refl _))
        rwa [hT] at this
      have HF2 : Hid (∀ w', Below wr.heap.size wr w' → Calls Tryd.prog 6 #[.slice Gm ps.length cm, .int .i64 u] w' (FoldPost u t w')) := fun w' hb' => by
        have := fold_any u (ps.map Prod.fst) (.slice Gm ps.length cm) m w' (HROW.out.bats.down hb') hgm (by rw [List.length_map]; omega) (by omega) (moved HM.out (bt HB1.out (bt HB.out hb')) (Nat.le_refl _))
        rwa [hT2] at this
      have HF3 : Hid (∀ w', Below wr.heap.size wr w' → Calls Tryd.prog 6 #[.slice G bs.length cp, .int .i64 3] w' (FoldPost 3 (foldS 3 bs) w')) := fun w' hb' =>
        fold_any 3 bs (.slice G bs.length cp) m w' ((HBS.out.down HB.out).down hb') (fun b hb => (HOK.out b hb).1) (by omega) (by omega) (moved HM.out (bt HB1.out (bt HB.out hb')) (Nat.le_refl _))
      clear hT hpm hT2 hgm hb
      go_wp2_with fail
      refine (HF1.out _ (Below.refl _ _)).mono ?_
      intro e w3 h3
      obtain ⟨⟨A1, a1, A2, a2, rfl, ha1, ha2⟩, hb3⟩ := fold_ok h3 HU3.out
      have hal4 := bt hb3 (ba (Below.refl w3.heap.size w3) (.cells #[.slice A1 t.boxes.length a1, .slice A2 t.spool.length a2] 29))
      have hA4 := Has.alloc w3 [.slice A1 t.boxes.length a1, .slice A2 t.spool.length a2] 29
      have HA4 := Lib.hid hA4; have HB4 := Lib.hid hal4; have HP1 := Lib.hid (ha1.down (ba (Below.refl w3.heap.size w3) (.cells #[.slice A1 t.boxes.length a1, .slice A2 t.spool.length a2] 29))); have HP2 := Lib.hid (ha2.down (ba (Below.refl w3.heap.size w3) (.cells #[.slice A1 t.boxes.length a1, .slice A2 t.spool.length a2] 29)))
      clear h3 ha1 ha2 hb3 hal4 hA4 HF1
      go_wp2_with fail
      obtain ⟨N4, hN⟩ : ∃ N4, N4 = w3.heap.size := ⟨_, rfl⟩
      obtain ⟨W4, hW⟩ : ∃ W4, W4 = w3.alloc (.cells #[.slice A1 t.boxes.length a1, .slice A2 t.spool.length a2] 29) := ⟨_, rfl⟩
      rw [← hN, ← hW] at HA4
      rw [← hW] at HB4 HP1 HP2
      rw [← hN, ← hW]
      clear hN hW
      refine (HF2.out _ HB4.out).mono ?_
      intro e w5 h5
      obtain ⟨⟨B1, b1, B2, b2, rfl, hc1, hc2⟩, hb5⟩ := fold_ok h5 HU3.out
      have hal5 := ba (Below.refl w5.heap.size w5) (.cells #[.slice B1 t.boxes.length b1, .slice B2 t.spool.length b2] 29)
      have HA6 := Lib.hid (Has.alloc w5 [.slice B1 t.boxes.length b1, .slice B2 t.spool.length b2] 29)
      have HQ1 := Lib.hid (hc1.down hal5); have HQ2 := Lib.hid (hc2.down hal5); have HB6 := Lib.hid (bt (bt HB4.out hb5) hal5)
      have HA46 := Lib.hid ((HA4.out.down hb5).down hal5); have HP16 := Lib.hid ((HP1.out.down hb5).down hal5); have HP26 := Lib.hid ((HP2.out.down hb5).down hal5)
      clear h5 hc1 hc2 hb5 hal5 HF2 HA4 HP1 HP2
      go_wp2_with fail
      obtain ⟨N6, hN⟩ : ∃ N6, N6 = w5.heap.size := ⟨_, rfl⟩
      obtain ⟨W6, hW⟩ : ∃ W6, W6 = w5.alloc (.cells #[.slice B1 t.boxes.length b1, .slice B2 t.spool.length b2] 29) := ⟨_, rfl⟩
      rw [← hN, ← hW] at HA6
      rw [← hW] at HB6 HQ1 HQ2 HA46 HP16 HP26
      rw [← hN, ← hW]
      clear hN hW
      refine (HF3.out _ HB6.out).mono ?_
      intro e w7 h7
      obtain ⟨rfl, hb7⟩ := fold_out h7
      have hal8 := bt hb7 (ba (Below.refl w7.heap.size w7) (.cells #[.slice none 0 0, .slice none 0 0] 29))
      have HA48 := Lib.hid (HA46.out.down hal8); have HA68 := Lib.hid (HA6.out.down hal8); have HO8 := Lib.hid (HO.out.down (bt HB6.out hal8)); have HB8 := Lib.hid (bt HB6.out hal8)
      have HP18 := Lib.hid (HP16.out.down hal8); have HP28 := Lib.hid (HP26.out.down hal8); have HQ18 := Lib.hid (HQ1.out.down hal8); have HQ28 := Lib.hid (HQ2.out.down hal8); have HS18 := Lib.hid (HS1.out.down (bt HB6.out hal8)); have HS28 := Lib.hid (HS2.out.down (bt HB6.out hal8))
      clear h7 hb7 hal8 HF3 HA46 HA6 HP16 HP26 HQ1 HQ2 HB6 HB4 HO HS1 HS2
      go_upto_region 16 with fail
      refine wp_named (R := fun W => Has W N4 [.slice A1 t.boxes.length a1, .slice A2 t.spool.length a2] ∧ Has W N6 [.slice B1 t.boxes.length b1, .slice B2 t.spool.length b2] ∧ Has W S7 [.slice D1 t.boxes.length d1, .slice D2 t.spool.length d2] ∧ Below wr.heap.size wr W ∧ (SAt cBox W (fun _ => True) (.slice A1 t.boxes.length a1) t.boxes ∧ SAt cEnt W (fun _ => True) (.slice A2 t.spool.length a2) t.spool) ∧ (SAt cBox W (fun _ => True) (.slice B1 t.boxes.length b1) t.boxes ∧ SAt cEnt W (fun _ => True) (.slice B2 t.spool.length b2) t.spool) ∧ SAt cBox W (fun _ => True) (.slice D1 t.boxes.length d1) t.boxes ∧ SAt cEnt W (fun _ => True) (.slice D2 t.spool.length d2) t.spool)
        ⟨HA48.out, HA68.out, HO8.out, HB8.out, ⟨HP18.out.mono (fun _ _ => trivial), HP28.out.mono (fun _ _ => trivial)⟩, ⟨HQ18.out.mono (fun _ _ => trivial), HQ28.out.mono (fun _ _ => trivial)⟩, HS18.out.mono (fun _ _ => trivial), HS28.out.mono (fun _ _ => trivial)⟩ (fun W hW => ?_)
      clear HA48 HA68 HO8 HB8 HP18 HP28 HQ18 HQ28 HS18 HS28
      obtain ⟨hA, hB, hS, hbW, hp, hq, hs⟩ := hW
      obtain ⟨p0, p1, -, -⟩ := hA.two
      obtain ⟨q0, q1, -, -⟩ := hB.two
      obtain ⟨s0, s1, -, -⟩ := hS.two
      have HCA := Lib.hid (same_any t _ _ _ _ _ _ W hp.1 hp.2 hs.1 hs.2 (by omega) (by omega) hg30.out)
      have HCB : Hid (∀ w', Below W.heap.size W w' → Calls Tryd.prog 8 #[.agg #[.slice B1 t.boxes.length b1, .slice B2 t.spool.length b2], .agg #[.slice D1 t.boxes.length d1, .slice D2 t.spool.length d2]] w' fun e w'' => e = .returned (.bool true) ∧ Below w'.heap.size w' w'') := fun w' hb' => same_any t _ _ _ _ _ _ w' (hq.1.down hb') (hq.2.down hb') (hs.1.down hb') (hs.2.down hb') (by omega) (by omega) hg30.out
      have HBW := Lib.hid (bt HB1.out (bt HB.out hbW))
      have HHB := Lib.hid hB; have HHS := Lib.hid hS
      clear hA hB hS hbW hp hq hs
      go_wp2_with fail
      refine HCA.out.mono ?_
      rintro e w8 ⟨rfl, hb8⟩
      obtain ⟨q08, q18, -, -⟩ := (HHB.out.down hb8).two
      obtain ⟨s08, s18, -, -⟩ := (HHS.out.down hb8).two
      have HB88 := Lib.hid hb8
      clear hb8
      go_wp2_with fail
      refine (HCB.out _ HB88.out).mono ?_
      rintro e w9 ⟨rfl, hb9⟩
      obtain ⟨s09, s19, -, -⟩ := (HHS.out.down (bt HB88.out hb9)).two
      have HB99 := Lib.hid (bt HBW.out (bt HB88.out hb9))
      clear hb9
      go_wp2_with fail
      go_ret
      exact ⟨rfl, HB99.out⟩
end Go.Proofs.YtaeejmggmgejcaaDoor
