/-
  DERIVED. FlagsBoth: the walk.
-/
import Derived.Test.YtlghlcekakbmnaaDoorFlags
import Derived.Laws.AppendOwnNone
import Derived.Deep.DeepCutAuto
import Derived.Deep.CutBlock
namespace Go.Proofs.YtlghlcekakbmnaaDoor
open Go.RowKit

theorem infoStr : (Tryd.prog.info? 9).map (fun i => (i.zero, i.size, i.bytes)) = some (some (.string ⟨#[]⟩), 1, 16) := by kernel_rfl
theorem flOf_app (a b : List Nat) : flOf (a ++ b) = flOf a ||| flOf b := by
  have : ∀ (b : List Nat) (o : Nat), b.foldl (fun o k => o ||| 1 <<< k) o = o ||| b.foldl (fun o k => o ||| 1 <<< k) 0 := by
    intro b
    induction b with
    | nil => intro o; simp
    | cons k b ih => intro o; rw [List.foldl_cons, List.foldl_cons, ih, ih (0 ||| 1 <<< k), Nat.zero_or, Nat.or_assoc]
  unfold flOf
  rw [List.foldl_append, this]

/-- 'picked', its answer under a name of its own -/
theorem picked_ex (z : Int) (m : Nat) (h1 : -9223372036854775808 ≤ z) (h2 : z ≤ 9223372036854775807) (hm : 1 ≤ m) (hm2 : m ≤ 1000000) :
    ∃ k : Nat, k < m ∧ ∀ w, Calls Tryd.prog 4 #[.int .i64 z, .int .i64 (m : Int)] w fun e w' => e = .returned (.int .i64 k) ∧ w = w' :=
  ⟨pick z m, pick_lt z m hm, fun w => picked_any z m w h1 h2 (by omega) (by omega)⟩
/-- integers that came in: the cells of a slice's elements -/
def IntsAt (w : World) (a : Option Addr) (len : Nat) (z : Nat → Int) : Prop := ∀ i, i < len → ∃ b o, a = some ⟨b, o, none⟩ ∧ b < w.heap.size ∧ w.cell? ⟨b, o + i, none⟩ = some (.int .i64 (z i)) ∧ -9223372036854775808 ≤ z i ∧ z i ≤ 9223372036854775807

/-- what the loops carry -/
def OwnN (B : Nat) (w : World) (v : Value) (ks : List Nat) : Prop := w.ownsRow B 9 1 v ks.length (scells (ks.map nmV)) ∧ (∀ k ∈ ks, k < 5)
theorem grown_of_below {w w' : World} (h : Below w.heap.size w w') : w.grownBy w' none := ⟨h.os, h.tape, h.output, h.size, fun k hk _ => h.block k hk⟩
theorem own_below {base e size n : Nat} {w w' : World} {v : Value} {xs : List Value} (h : w.ownsRow base e size v n xs) (hb : Below w.heap.size w w') : w'.ownsRow base e size v n xs :=
  h.kept (grown_of_below hb) (by cases hv : v.ownBlock <;> simp)
theorem OwnN.below {B : Nat} {w w' : World} {v : Value} {ks : List Nat} (h : OwnN B w v ks) (hb : Below w.heap.size w w') : OwnN B w' v ks := ⟨own_below h.1 hb, h.2⟩
/-- a row that a slice owns, as a source to append from -/
theorem OwnN.form {B : Nat} {w : World} {v : Value} {ks : List Nat} (h : OwnN B w v ks) : (v = .slice none 0 0 ∧ ks = []) ∨ ∃ g cap, v = .slice (some ⟨g, 0, none⟩) ks.length cap := by
  rcases h.1.2 with ⟨h1, h2⟩ | ⟨g, cap, _, h1, _⟩
  · exact .inl ⟨h1, List.eq_nil_of_length_eq_zero h2⟩
  · exact .inr ⟨g, cap, h1⟩
theorem OwnN.app {B : Nat} {w' : World} {v : Value} {k1 k2 : List Nat} (h1 : ∀ k ∈ k1, k < 5) (h2 : ∀ k ∈ k2, k < 5) (h : w'.ownsRow B 9 1 v (k1.length + k2.length) (scells (k1.map nmV) ++ scells (k2.map nmV))) : OwnN B w' v (k1 ++ k2) := by
  refine ⟨?_, fun k hk => (List.mem_append.1 hk).elim (h1 k) (h2 k)⟩
  rw [List.length_append, List.map_append, scells, List.map_append]
  exact h
theorem scells_one (l : List ByteArray) : ∀ u ∈ scells l, u.oneCell' = true := by
  intro u hu; simp only [scells, List.mem_map] at hu; obtain ⟨b, _, rfl⟩ := hu; rfl
theorem OwnN.snoc {B : Nat} {w w' : World} {v v' : Value} {ks : List Nat} {k : Nat} (h : OwnN B w v ks) (hk : k < 5) (h' : w'.ownsRow B 9 1 v' (ks.length + 1) (scells (ks.map nmV) ++ [.string (flNames[k]'hk)])) : OwnN B w' v' (ks ++ [k]) := by
  refine ⟨?_, fun j hj => ?_⟩
  · rw [List.length_append, List.map_append]
    unfold scells at h' ⊢
    rw [List.map_append]
    simp only [List.map_cons, List.map_nil, nmV_get k hk]
    exact h'
  · rcases List.mem_append.1 hj with hj | hj
    · exact h.2 j hj
    · simp at hj; subst hj; exact hk

set_option maxHeartbeats 4000000 in
theorem flagsBothWalk (a : Option Addr) (la ca : Nat) (za : Nat → Int) (b : Option Addr) (lb cb : Nat) (zb : Nat → Int) (w : World) (ha : IntsAt w a la za) (hla : la ≤ maxLen) (hb : IntsAt w b lb zb) (hlb : lb ≤ maxLen) (hN : NamesAt w) :
    Calls Tryd.prog 3 #[.slice a la ca, .slice b lb cb] w fun e w' => e = .returned (.bool true) ∧ Below w.heap.size w w' := by
  have hG : 0 < w.heap.size := World.block_lt_of_cell? w ⟨0, 0, none⟩ (hN 0 (by decide))
  unfold maxLen at hla hlb
  obtain ⟨i0, hi, hz0, hz1, hz2⟩ := info_parts infoStr
  have hI := Lib.hid hi; have hZ0 := Lib.hid hz0; have hZ1 := Lib.hid hz1; have hZ2 := Lib.hid hz2
  have HA := Lib.hid ha; have HB := Lib.hid hb; have HN := Lib.hid hN
  clear hi hz0 hz1 hz2 ha hb hN
  obtain ⟨W0, hW0⟩ : ∃ W0, W0 = w.alloc (.cells (flNames.map Value.string).toArray 9) := ⟨_, rfl⟩
  have hB0 : Below w.heap.size w W0 := by rw [hW0]; exact ba (Below.refl _ w) _
  have hS0 : w.heap.size + 1 ≤ W0.heap.size := by rw [hW0]; simp
  have hAll : ∀ k (hk : k < 5), W0.cell? ⟨w.heap.size, k, none⟩ = some (.string (flNames[k]'hk)) := by
    intro k hk
    have hh : W0.heap[w.heap.size]? = some (.cells (flNames.map Value.string).toArray 9 (0, 0)) := by rw [hW0]; exact heap_alloc_new w _
    simp only [World.cell?, hh]
    have : ∀ k (hk : k < 5), (flNames.map Value.string).toArray[k]? = some (.string (flNames[k]'hk)) := by
      intro k hk
      rw [List.getElem?_toArray, List.getElem?_map, List.getElem?_eq_getElem hk]; rfl
    exact this k hk
  have HW := Lib.hid hW0; have HALL := Lib.hid hAll
  clear hW0 hAll
  go_enter Tryd.func3, Tryd.ntmps3
  go_upto_block 0 with fail
  rw [show w.alloc (.cells #[Value.string ⟨#[92, 83, 101, 101, 110]⟩, .string ⟨#[92, 65, 110, 115, 119, 101, 114, 101, 100]⟩, .string ⟨#[92, 70, 108, 97, 103, 103, 101, 100]⟩, .string ⟨#[92, 68, 101, 108, 101, 116, 101, 100]⟩, .string ⟨#[92, 68, 114, 97, 102, 116]⟩] 9) = W0 from HW.out.symm]
  go_cut [6] (fun v wx => ∃ ks : List Nat, ks.length ≤ 6 ∧ OwnN (w.heap.size + 1) wx v ks ∧ Below (w.heap.size + 1) W0 wx)
  case first =>
    go_wp2_with fail
    go_loopw [6, 8] (fun v i wr => ∃ (j : Nat) (ks : List Nat), j ≤ 6 ∧ j ≤ la ∧ ks.length ≤ j ∧ i = .int .i64 j ∧ OwnN (w.heap.size + 1) wr v ks ∧ Below (w.heap.size + 1) W0 wr) (fun _ i _ => 6 - (intOf i).toNat)
    case atStart => exact ⟨0, [], by omega, by omega, by simp, rfl, ⟨World.ownsRow_nil _ _ _ _, by simp⟩, Below.refl _ _⟩
    case round =>
      obtain ⟨j, ks, hj6, hja, hkl, rfl, hown, hbw⟩ := hrel
      by_cases hlt : j < la ∧ j < 6
      · obtain ⟨h1, h2⟩ := hlt
        obtain ⟨g, o, rfl, hgb, hc, hz1, hz2⟩ := HA.out j h1
        have hgw : g < w.heap.size + 1 := by omega
        have hcw : wr.cell? ⟨g, o + j, none⟩ = some (.int .i64 (za j)) := (hbw.cell (p := ⟨g, o + j, none⟩) hgw).trans ((hB0.cell (p := ⟨g, o + j, none⟩) hgb).trans hc)
        obtain ⟨k, hk5, hp⟩ := picked_ex (za j) 5 hz1 hz2 (by omega) (by omega)
        have HP := Lib.hid hp
        have hck : wr.cell? ⟨w.heap.size, k, none⟩ = some (.string (flNames[k]'hk5)) := (hbw.cell (p := ⟨w.heap.size, k, none⟩) (Nat.lt_succ_self _)).trans (HALL.out k hk5)
        clear hp hc
        have hown1 := hown.1
        have hbs : w.heap.size + 1 ≤ wr.heap.size := Nat.le_trans hS0 hbw.size
        go_wp2_with fail
        refine (HP.out _).mono ?_
        rintro e w1 ⟨rfl, rfl⟩
        go_wp2_with (at_builtin; refine wpList_append_own _ rfl _ _ 23 rfl (w.heap.size + 1) 9 i0 (.string ⟨#[]⟩) 1 16 Tryd.underlying23 hI.out hZ0.out hZ1.out hZ2.out rfl (by decide) _ _ _ rfl (hown1.alloc _) ⟨wr.heap.size, 0, none⟩ 1 1 [.string (flNames[k]'hk5)] rfl rfl (cell_one_new _ _ _) ?c2a ?c3a ?c4a ?c5a ?_)
        case c2a => intro u hu; simp at hu; subst hu; rfl
        case c3a => unfold maxLen; omega
        case c4a => omega
        case c5a => simp; omega
        intro v' w2 hown' hgrow _
        have hb2 := (hbw.alloc hbs _).grown hgrow (by simp; omega) (fun k' h => (hown1.lt k' h).1)
        have hown2 := hown.snoc hk5 hown'
        clear hown' hgrow hown1
        go_wp2
        go_roundw
        case rel => exact ⟨j + 1, ks ++ [k], by omega, by omega, by simp; omega, by go_num, hown2, hb2⟩
        case measure => simp [intOf]; omega
      · go_wp2_with fail
        all_goals
          go_meet
          exact ⟨ks, by omega, hown, hbw⟩
  case rest =>
    obtain ⟨k1, hk1, ho1, hb1⟩ := hcut
    have hs1 : w.heap.size + 1 ≤ wc.heap.size := Nat.le_trans hS0 hb1.size
    go_upto_block 2 with fail
    obtain ⟨v1, hv1⟩ : ∃ v1, v1 = u6 := ⟨_, rfl⟩
    go_cut [7] (fun v wx => ∃ ks : List Nat, ks.length ≤ 6 ∧ OwnN wc.heap.size wx v ks ∧ Below wc.heap.size wc wx)
    case first =>
      clear hv1
      go_wp2_with fail
      go_loopw [7, 9] (fun v i wr => ∃ (j : Nat) (ks : List Nat), j ≤ 6 ∧ j ≤ lb ∧ ks.length ≤ j ∧ i = .int .i64 j ∧ OwnN wc.heap.size wr v ks ∧ Below wc.heap.size wc wr) (fun _ i _ => 6 - (intOf i).toNat)
      case atStart => exact ⟨0, [], by omega, by omega, by simp, rfl, ⟨World.ownsRow_nil _ _ _ _, by simp⟩, Below.refl _ _⟩
      case round =>
        obtain ⟨j, ks, hj6, hja, hkl, rfl, hown, hbw⟩ := hrel
        by_cases hlt : j < lb ∧ j < 6
        · obtain ⟨h1, h2⟩ := hlt
          obtain ⟨g, o, rfl, hgb, hc, hz1, hz2⟩ := HB.out j h1
          have hgw : g < w.heap.size + 1 := by omega
          have hcw : wr.cell? ⟨g, o + j, none⟩ = some (.int .i64 (zb j)) := (hbw.cell (p := ⟨g, o + j, none⟩) (by show g < _; omega)).trans ((hb1.cell (p := ⟨g, o + j, none⟩) hgw).trans ((hB0.cell (p := ⟨g, o + j, none⟩) hgb).trans hc))
          obtain ⟨k, hk5, hp⟩ := picked_ex (zb j) 5 hz1 hz2 (by omega) (by omega)
          have HP := Lib.hid hp
          have hck : wr.cell? ⟨w.heap.size, k, none⟩ = some (.string (flNames[k]'hk5)) := (hbw.cell (p := ⟨w.heap.size, k, none⟩) (by show w.heap.size < _; omega)).trans ((hb1.cell (p := ⟨w.heap.size, k, none⟩) (Nat.lt_succ_self _)).trans (HALL.out k hk5))
          clear hp hc
          have hown1 := hown.1
          have hbs : wc.heap.size ≤ wr.heap.size := hbw.size
          go_wp2_with fail
          refine (HP.out _).mono ?_
          rintro e w1 ⟨rfl, rfl⟩
          go_wp2_with (at_builtin; refine wpList_append_own _ rfl _ _ 23 rfl wc.heap.size 9 i0 (.string ⟨#[]⟩) 1 16 Tryd.underlying23 hI.out hZ0.out hZ1.out hZ2.out rfl (by decide) _ _ _ rfl (hown1.alloc _) ⟨wr.heap.size, 0, none⟩ 1 1 [.string (flNames[k]'hk5)] rfl rfl (cell_one_new _ _ _) ?c2b ?c3b ?c4b ?c5b ?_)
          case c2b => intro u hu; simp at hu; subst hu; rfl
          case c3b => unfold maxLen; omega
          case c4b => omega
          case c5b => simp; omega
          intro v' w2 hown' hgrow _
          have hb2 := (hbw.alloc hbs _).grown hgrow (by simp; omega) (fun k' h => (hown1.lt k' h).1)
          have hown2 := hown.snoc hk5 hown'
          clear hown' hgrow hown1
          go_wp2
          go_roundw
          case rel => exact ⟨j + 1, ks ++ [k], by omega, by omega, by simp; omega, by go_num, hown2, hb2⟩
          case measure => simp [intOf]; omega
        · go_wp2_with fail
          all_goals
            go_meet
            exact ⟨ks, by omega, hown, hbw⟩
    case rest =>
      clear hv1
      obtain ⟨k2, hk2, ho2, hb2⟩ := hcut
      have ho1' := ho1.below hb2
      have hbw := ((hB0.trans (hb1.mono (Nat.le_succ _))).trans (hb2.mono (by omega)))
      have hall : ∀ k (hk : k < 5), wc.cell? ⟨w.heap.size, k, none⟩ = some (.string (flNames[k]'hk)) := fun k hk =>
        (hb2.cell (p := ⟨w.heap.size, k, none⟩) (by show w.heap.size < _; omega)).trans ((hb1.cell (p := ⟨w.heap.size, k, none⟩) (Nat.lt_succ_self _)).trans (HALL.out k hk))
      have hNc : NamesAt wc := (HN.out).of_below hbw hG
      have hsz : w.heap.size < wc.heap.size := by have := hbw.size; have := hb2.size; omega
      clear ho1 hb1 hb2
      have F1 := Lib.hid (flags_own ho1'.1 ho1'.2 (by omega) hNc)
      have F2 := Lib.hid (flags_own ho2.1 ho2.2 (by omega) hNc)
      have F4 := fun (w' : World) (hb : Below wc.heap.size wc w') => flags_row w.heap.size 5 [0, 1, 2, 3, 4] w' (by decide) (by decide) (hNc.of_below hb (Nat.lt_trans hG hsz)) (fun j hj => by
        rw [hb.cell (p := ⟨w.heap.size, j, none⟩) hsz]
        have h5 : j < 5 := hj
        rw [hall j h5, ← nmV_get j h5]
        have : ∀ j (hj : j < 5), j = ([0, 1, 2, 3, 4] : List Nat)[j]'hj := by decide
        rw [← this j h5])
      have H4 := Lib.hid F4
      obtain ⟨fo, hfo⟩ : ∃ fo, fo = flOf (k1 ++ k2) := ⟨_, rfl⟩
      have F3 : ∀ v w', OwnN wc.heap.size w' v (k1 ++ k2) → Below wc.heap.size wc w' → Calls Tryd.prog 5 #[v] w' fun e w'' => e = .returned (.tuple #[.int .i64 fo, .int .i64 0]) ∧ w' = w'' := fun v w' h hb => by
        rw [hfo]; exact flags_own h.1 h.2 (by simp; omega) (hNc.of_below hb (Nat.lt_trans hG hsz))
      have H3 := Lib.hid F3; clear F3
      have h31 : Hid (flOf [0, 1, 2, 3, 4] = 31) := rfl
      have HOR : Hid (((fo : Int) == bits .or .i64 (flOf k1 : Int) (flOf k2 : Int)) = true) := by
        unfold Hid
        rw [hfo, or_i64 _ _ (flOf_lt _ ho1'.2) (flOf_lt _ ho2.2), flOf_app]; simp
      clear F4 hfo
      go_wp2_with fail
      refine F1.out.mono ?_
      rintro e w1 ⟨rfl, rfl⟩
      go_wp2_with fail
      refine F2.out.mono ?_
      rintro e w1 ⟨rfl, rfl⟩
      rcases ho1'.form with ⟨hv1, rfl⟩ | ⟨g1, c1, hv1⟩
      all_goals rcases ho2.form with ⟨hv2, hkk⟩ | ⟨g2, c2, hv2⟩
      · subst hkk; subst hv1; subst hv2
        clear F1 F2
        go_wp2_with (first | (at_builtin; refine wpList_append_own_none rfl (.const (.slice none 0 0)) (.tmp 72) 23 rfl wc.heap.size 9 i0 1 Tryd.underlying23 hI.out _ _ _ rfl (World.ownsRow_nil _ _ _ _) rfl ?_) | (at_builtin; refine wpList_append_own_none rfl (.tmp 73) (.tmp 74) 23 rfl wc.heap.size 9 i0 1 Tryd.underlying23 hI.out _ _ _ rfl (World.ownsRow_nil _ _ _ _) rfl ?_))
        refine (H3.out _ _ ⟨World.ownsRow_nil _ _ _ _, by simp⟩ (Below.refl _ _)).mono ?_
        rintro e w9 ⟨rfl, rfl⟩
        go_wp2_with fail
        refine (H4.out _ (Below.refl _ _)).mono ?_
        rintro e w9 ⟨rfl, rfl⟩
        rw [h31.out]
        have hor := HOR.out
        go_wp2
        go_ret
        exact ⟨rfl, bt hbw (Below.refl _ _)⟩
      · subst hv1; subst hv2
        clear F1 F2
        go_wp2_with (first | (at_builtin; refine wpList_append_own_none rfl (.const (.slice none 0 0)) (.tmp 72) 23 rfl wc.heap.size 9 i0 1 Tryd.underlying23 hI.out _ _ _ rfl (World.ownsRow_nil _ _ _ _) rfl ?_) | (at_builtin; refine wpList_append_own _ rfl (.tmp 73) (.tmp 74) 23 rfl wc.heap.size 9 i0 (.string ⟨#[]⟩) 1 16 Tryd.underlying23 hI.out hZ0.out hZ1.out hZ2.out rfl (by decide) _ _ _ rfl (World.ownsRow_nil _ _ _ _) ⟨g2, 0, none⟩ k2.length c2 (scells (k2.map nmV)) rfl (by simp [scells]) (World.ownsRow.cells ho2.1 (g := g2) rfl) (scells_one _) (by unfold maxLen; omega) (by omega) (Nat.le_refl _) ?_; intro v3 w3 hown3 hgr3 _))
        have hbz : Below wc.heap.size wc w3 := (Below.refl _ _).grown hgr3 (Nat.le_refl _) (fun k e => by cases e)
        have ho3 : OwnN wc.heap.size w3 v3 ([] ++ k2) := ⟨by simpa using hown3, fun k hk => ho2.2 k (by simpa using hk)⟩
        clear hown3 hgr3
        go_wp2_with fail
        refine (H3.out _ _ ho3 hbz).mono ?_
        rintro e w9 ⟨rfl, rfl⟩
        go_wp2_with fail
        refine (H4.out _ hbz).mono ?_
        rintro e w9 ⟨rfl, rfl⟩
        rw [h31.out]
        have hor := HOR.out
        go_wp2
        go_ret
        exact ⟨rfl, bt hbw hbz⟩
      · subst hkk; subst hv1; subst hv2
        clear F1 F2
        go_wp2_with (first | (at_builtin; refine wpList_append_own _ rfl (.const (.slice none 0 0)) (.tmp 72) 23 rfl wc.heap.size 9 i0 (.string ⟨#[]⟩) 1 16 Tryd.underlying23 hI.out hZ0.out hZ1.out hZ2.out rfl (by decide) _ _ _ rfl (World.ownsRow_nil _ _ _ _) ⟨g1, 0, none⟩ k1.length c1 (scells (k1.map nmV)) rfl (by simp [scells]) (World.ownsRow.cells ho1'.1 (g := g1) rfl) (scells_one _) (by unfold maxLen; omega) (by omega) (Nat.le_refl _) ?_; intro v3 w3 hown3 hgr3 _) | (at_builtin; refine wpList_append_own_none rfl (.tmp 73) (.tmp 74) 23 rfl wc.heap.size 9 i0 1 Tryd.underlying23 hI.out _ _ _ rfl hown3 rfl ?_))
        have hbz : Below wc.heap.size wc w3 := (Below.refl _ _).grown hgr3 (Nat.le_refl _) (fun k e => by cases e)
        have ho3 : OwnN wc.heap.size w3 v3 (k1 ++ []) := ⟨by simpa using hown3, fun k hk => ho1'.2 k (by simpa using hk)⟩
        clear hown3 hgr3
        go_wp2_with fail
        refine (H3.out _ _ ho3 hbz).mono ?_
        rintro e w9 ⟨rfl, rfl⟩
        go_wp2_with fail
        refine (H4.out _ hbz).mono ?_
        rintro e w9 ⟨rfl, rfl⟩
        rw [h31.out]
        have hor := HOR.out
        go_wp2
        go_ret
        exact ⟨rfl, bt hbw hbz⟩
      · subst hv1; subst hv2
        clear F1 F2
        go_wp2_with (first | (at_builtin; refine wpList_append_own _ rfl (.const (.slice none 0 0)) (.tmp 72) 23 rfl wc.heap.size 9 i0 (.string ⟨#[]⟩) 1 16 Tryd.underlying23 hI.out hZ0.out hZ1.out hZ2.out rfl (by decide) _ _ _ rfl (World.ownsRow_nil _ _ _ _) ⟨g1, 0, none⟩ k1.length c1 (scells (k1.map nmV)) rfl (by simp [scells]) (World.ownsRow.cells ho1'.1 (g := g1) rfl) (scells_one _) (by unfold maxLen; omega) (by omega) (Nat.le_refl _) ?_; intro v3 w3 hown3 hgr3 _; have hbz3 : Below wc.heap.size wc w3 := (Below.refl _ _).grown hgr3 (Nat.le_refl _) (fun k e => by cases e)) | (at_builtin; refine wpList_append_own _ rfl (.tmp 73) (.tmp 74) 23 rfl wc.heap.size 9 i0 (.string ⟨#[]⟩) 1 16 Tryd.underlying23 hI.out hZ0.out hZ1.out hZ2.out rfl (by decide) _ _ _ rfl hown3 ⟨g2, 0, none⟩ k2.length c2 (scells (k2.map nmV)) rfl (by simp [scells]) (World.ownsRow.cells (own_below ho2.1 hbz3) (g := g2) rfl) (scells_one _) (by unfold maxLen; omega) (by omega) hbz3.size ?_; intro v4 w4 hown4 hgr4 _))
        have hbz : Below wc.heap.size wc w4 := hbz3.grown hgr4 hbz3.size (fun k h => (hown3.lt k h).1)
        have ho3 : OwnN wc.heap.size w4 v4 (k1 ++ k2) := OwnN.app ho1'.2 ho2.2 (by simpa using hown4)
        clear hown3 hgr3 hown4 hgr4 hbz3
        go_wp2_with fail
        refine (H3.out _ _ ho3 hbz).mono ?_
        rintro e w9 ⟨rfl, rfl⟩
        go_wp2_with fail
        refine (H4.out _ hbz).mono ?_
        rintro e w9 ⟨rfl, rfl⟩
        rw [h31.out]
        have hor := HOR.out
        go_wp2
        go_ret
        exact ⟨rfl, bt hbw hbz⟩
end Go.Proofs.YtlghlcekakbmnaaDoor
