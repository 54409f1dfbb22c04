/-
  DERIVED. 'Values' of letter: the walk.
-/
import Derived.Test.YtkchoempejdleaaDoorIs
import Derived.Deep.AppendLies
namespace Go.Proofs.YtkchoempejdleaaDoor
open Go.RowKit

/-- the values of a name -/
def valsL (fs : List Fld) (n : List UInt8) : List (List UInt8) := (fs.filter fun f => foldL f.1 == foldL n).map (·.2)
theorem valsL_take_hit (fs : List Fld) (n : List UInt8) (j : Nat) (h : j < fs.length) (hm : (foldL fs[j].1 == foldL n) = true) : valsL (fs.take (j + 1)) n = valsL (fs.take j) n ++ [fs[j].2] := by
  unfold valsL
  rw [List.take_succ_eq_append_getElem h, List.filter_append, List.map_append]
  simp [hm]
theorem valsL_take_miss (fs : List Fld) (n : List UInt8) (j : Nat) (h : j < fs.length) (hm : (foldL fs[j].1 == foldL n) = false) : valsL (fs.take (j + 1)) n = valsL (fs.take j) n := by
  unfold valsL
  rw [List.take_succ_eq_append_getElem h, List.filter_append, List.map_append]
  simp [hm]
theorem valsL_len (fs : List Fld) (n : List UInt8) : (valsL fs n).length ≤ fs.length := by
  unfold valsL
  rw [List.length_map]
  exact List.length_filter_le _ _
def scells (l : List (List UInt8)) : List Value := l.map fun s => .string ⟨s.toArray⟩
theorem scells_len (l : List (List UInt8)) : (scells l).length = l.length := by simp [scells]
theorem scells_snoc (l : List (List UInt8)) (s : List UInt8) : scells (l ++ [s]) = scells l ++ [.string ⟨s.toArray⟩] := by simp [scells]
theorem infoStr : (Tryd.prog.info? 9).map (fun i => (i.zero, i.size, i.bytes)) = some (some (.string ⟨#[]⟩), 1, 16) := by kernel_rfl

set_option maxHeartbeats 4000000 in
set_option maxRecDepth 20000 in
theorem values_any (fs : List Fld) (v : Value) (body nm : ByteArray) (m : Int) (w : World) (hv : FldsAt w v fs) (hgood : ∀ f ∈ fs, Good f) (hlen : fs.length ≤ 30) (hsz : (showF fs).length + 2 + body.size ≤ 2000) (hnm : nm.size ≤ 100) (hm : w.cell? ⟨0, 0, none⟩ = some (.int .i64 m)) :
    Calls Tryd.prog 27 #[.agg #[v, .string body], .string nm] w fun e w' => (∃ u, e = .returned (.tuple #[u, .int .i64 0]) ∧ w'.ownsRow w.heap.size 9 1 u (valsL fs nm.data.toList).length (scells (valsL fs nm.data.toList))) ∧ Below w.heap.size w w' := by
  obtain ⟨R, hR⟩ : ∃ R, R = w.heap.size := ⟨_, rfl⟩
  obtain ⟨i0, hi, hz0, hz1, hz2⟩ := info_parts infoStr
  have HI := Lib.hid hi; have HZ0 := Lib.hid hz0; have HZ1 := Lib.hid hz1; have HZ2 := Lib.hid hz2
  clear hi hz0 hz1 hz2
  have HCH : Hid (∀ wr, Below w.heap.size w wr → Calls Tryd.prog 25 #[.agg #[v, .string body]] wr fun e w' => e = .returned (.int .i64 0) ∧ Below wr.heap.size wr w') := fun wr hb => by
    have hl : ¬ 2000 < (showL fs body.data.toList).length := by
      have h1 : (showL fs body.data.toList).length = (showF fs).length + 2 + body.data.toList.length := by
        unfold showL; simp only [List.length_append, List.length_cons, List.length_nil]
      have : body.data.toList.length = body.size := by simp
      omega
    have h := mcheck_any fs v body m wr (hv.down hb) hgood hlen (by omega) (moved hm hb (Nat.le_refl _))
    rw [if_neg hl] at h
    exact h
  obtain ⟨G, cap, hvv, hcells⟩ := hv
  subst hvv
  have HF : Hid (∀ j (h : j < fs.length) (wr : World), Below w.heap.size w wr → ∃ g, G = some ⟨g, 0, none⟩ ∧ ∃ N V : ByteArray, ∃ t : Bool, wr.cell? ⟨g, j * 2, none⟩ = some (.string N) ∧ wr.cell? ⟨g, j * 2 + 1, none⟩ = some (.string V) ∧
      (∀ w, Calls Tryd.prog 41 #[.int .i64 1, .string N, .string nm] w fun e w' => e = .returned (.tuple #[.bool t, .int .i64 0]) ∧ Below w.heap.size w w') ∧
      Hid ((t = true → scells (valsL (fs.take (j + 1)) nm.data.toList) = scells (valsL (fs.take j) nm.data.toList) ++ [.string V] ∧ (valsL (fs.take (j + 1)) nm.data.toList).length = (valsL (fs.take j) nm.data.toList).length + 1) ∧ (t = false → valsL (fs.take (j + 1)) nm.data.toList = valsL (fs.take j) nm.data.toList))) := by
    intro j h wr hb
    obtain ⟨g, hG, hg, h0, h1⟩ := hcells j fs[j] (List.getElem?_eq_getElem h)
    have hmem := showF_mem fs fs[j] (List.getElem_mem h)
    have hN : (⟨fs[j].1.toArray⟩ : ByteArray).size = fs[j].1.length := by show (List.toArray _).size = _; exact List.size_toArray
    refine ⟨g, hG, ⟨fs[j].1.toArray⟩, ⟨fs[j].2.toArray⟩, foldL fs[j].1 == foldL nm.data.toList, moved h0 hb (Nat.le_refl _), moved h1 hb (Nat.le_refl _), fun w => match1_any _ _ w (by omega) hnm, ?_, fun ht => valsL_take_miss fs _ j h ht⟩
    intro ht
    rw [valsL_take_hit fs _ j h ht]
    exact ⟨scells_snoc _ _, by simp⟩
  have hbox := alloc_cell w #[.slice G fs.length cap, .string body] 45 1 (.string body) rfl
  have hbox0 := alloc_cell w #[.slice G fs.length cap, .string body] 45 0 (.slice G fs.length cap) rfl
  rw [← hR] at hbox hbox0
  obtain ⟨W0, hW0⟩ : ∃ W0, W0 = w.alloc (.cells #[.slice G fs.length cap, .string body] 45) := ⟨_, rfl⟩
  have hz1 : W0.heap.size = R + 1 := by rw [hW0, hR]; simp
  have hb0 : Below w.heap.size w W0 := by rw [hW0]; exact ba (Below.refl _ w) _
  rw [← hW0] at hbox hbox0
  have HW0 := Lib.hid hW0.symm
  have HR := Lib.hid hR
  have hM := Lib.hid hm
  have HVL : Hid (∀ j, (valsL (fs.take j) nm.data.toList).length ≤ 30) := fun j => by
    have h1 := valsL_len (fs.take j) nm.data.toList
    rw [List.length_take] at h1
    omega
  clear hW0 hR hsz hcells hm hgood
  go_enter Tryd.func27, Tryd.ntmps27
  go_wp2_with fail
  rw [HW0.out, ← HR.out]
  refine (HCH.out _ hb0).mono ?_
  rintro e w1 ⟨rfl, hb1⟩
  have hbx0 := moved hbox0 hb1 (Nat.le_refl _)
  have hw1 := bt hb0 hb1
  have hs1 : R + 1 ≤ w1.heap.size := by have := hb1.size; omega
  clear hbox hbox0
  go_wp2_with fail
  go_loopw [7, 20] (fun u i wr => ∃ j : Nat, j ≤ fs.length ∧ i = .int .i64 j ∧ wr.ownsRow (R + 1) 9 1 u (valsL (fs.take j) nm.data.toList).length (scells (valsL (fs.take j) nm.data.toList)) ∧ Below w.heap.size w wr ∧ R + 1 ≤ wr.heap.size) (fun _ i _ => fs.length - (intOf i).toNat)
  case atStart => exact ⟨0, Nat.zero_le _, rfl, World.ownsRow_nil _ _ _ _, hw1, hs1⟩
  case round =>
    clear hbx0 hw1 hs1
    obtain ⟨j, hj, rfl, hown, hbel, hsz⟩ := hrel
    by_cases hlt : j < fs.length
    · obtain ⟨g, hG, N, V, t, h0, h1, hmt, hval⟩ := HF.out j hlt wr hbel
      subst hG
      have hmt := Lib.hid hmt
      have p0 := alloc_cell wr #[.string N, .string V] 48 0 _ rfl
      have p1 := alloc_cell wr #[.string N, .string V] 48 1 _ rfl
      have hbA := ba (Below.refl _ wr) (.cells #[.string N, .string V] 48)
      have hownA := hown.alloc (.cells #[.string N, .string V] 48)
      obtain ⟨W1, hW1⟩ : ∃ W1, W1 = wr.alloc (.cells #[.string N, .string V] 48) := ⟨_, rfl⟩
      go_wp2_with fail
      rw [← hW1] at p0 p1 hbA hownA ⊢
      clear hW1 h0 h1 hown
      refine (hmt.out _).mono ?_
      rintro e w2 ⟨rfl, hb2⟩
      have q1 := moved p1 hb2 (Nat.le_refl _)
      have hown2 := row_down hownA hb2
      have hw2 := bt (bt hbel hbA) hb2
      have hsz2 : R + 1 ≤ w2.heap.size := Nat.le_trans hsz (Nat.le_trans hbA.size hb2.size)
      clear p0 p1 hbA hownA hb2 hbel hsz
      cases t with
      | false =>
        have hv2 := Lib.hid (hval.out.2 rfl)
        clear hval
        go_wp2_with fail
        go_roundw
        case rel => exact ⟨j + 1, by omega, by go_num, by rw [hv2.out]; exact hown2, hw2, hsz2⟩
        case measure => simp [intOf]; omega
      | true =>
        have hv1 := Lib.hid (hval.out.1 rfl).1
        have hv2 := Lib.hid (hval.out.1 rfl).2
        have hvl := HVL.out j
        obtain ⟨L, hL⟩ : ∃ L, L = valsL (fs.take j) nm.data.toList := ⟨_, rfl⟩
        rw [← hL] at hown2 hvl
        have HL := Lib.hid hL
        have hcl := scells_len L
        clear hval hL
        go_wp2_with (at_builtin; refine wpList_append_lies _ (by rfl) _ _ _ (by rfl) (R + 1) 9 i0 _ 1 16 Tryd.underlying39 HI.out HZ0.out HZ1.out HZ2.out rfl (by omega) u7 L.length (scells L) (by rfl) (hown2.alloc _) ⟨w2.heap.size, 0, none⟩ 1 1 [.string V] (by rfl) (by rfl) (World.news_of_block (cs := #[.string V]) (t := 9) (fr := (0, 0)) (heap_alloc_new w2 _)) (by simp [Value.oneCell']) (by omega) (by unfold maxLen; omega) (by omega) (by simp; omega) (w2.heap.size + 1) (by simp) ?_)
        intro g2 cap2 w4 hown4 hgrow _ hglt
        have ap := ba (Below.refl _ w2) (.cells #[.string V] 9)
        have lb := below_row (ba hw2 (.cells #[.string V] 9)) (Nat.le_refl _) (hown2.alloc (.cells #[.string V] 9)) (by have := HR.out; omega) hgrow
        have ls : R + 1 ≤ w4.heap.size := Nat.le_trans hsz2 (Nat.le_trans ap.size hgrow.size)
        have hown5 : w4.ownsRow (R + 1) 9 1 (.slice (some ⟨g2, 0, none⟩) (L.length + 1) cap2) (valsL (fs.take (j + 1)) nm.data.toList).length (scells (valsL (fs.take (j + 1)) nm.data.toList)) := by
          rw [hv1.out, hv2.out, ← HL.out]; exact hown4
        clear hown4 hgrow hglt ap hown2 hw2 hsz2 q1
        go_wp2_with fail
        go_roundw
        case rel => exact ⟨j + 1, by omega, by go_num, hown5, lb, ls⟩
        case measure => simp [intOf]; omega
    · obtain rfl : j = fs.length := by omega
      rw [List.take_length] at hown
      go_wp2_with fail
      go_ret2
      exact ⟨⟨_, rfl, row_base (by have := HR.out; omega) hown⟩, hbel⟩
end Go.Proofs.YtkchoempejdleaaDoor
