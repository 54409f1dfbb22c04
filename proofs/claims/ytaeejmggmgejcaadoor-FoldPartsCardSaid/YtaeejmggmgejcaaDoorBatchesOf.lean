/-
  DERIVED. 'batchesOf' of postroomkeep: the walk.
-/
import Derived.Test.YtaeejmggmgejcaaDoorBats
import Derived.Test.YtaeejmggmgejcaaDoorBatchOf
import Derived.Test.YtaeejmggmgejcaaDoorHas
import Derived.Deep.DeepCutAuto
import Derived.IntWalk
namespace Go.Proofs.YtaeejmggmgejcaaDoor
open Go.RowKit

theorem entOf_len (c : Raw) : (entL (entOf c)).length ≤ 321 := by
  have hb := boxL_ok c.box
  have ht := boxL_ok c.dest
  have h : (entOf c).box.length ≤ 5 ∧ (entOf c).to.length ≤ 5 ∧ (entOf c).text.length ≤ 300 := by
    unfold entOf
    refine ⟨?_, ?_, ?_⟩
    · show (if _ then _ else _ : List UInt8).length ≤ 5
      split
      · exact hb.2
      · exact Nat.zero_le _
    · show (if _ then _ else if _ then _ else _ : List UInt8).length ≤ 5
      repeat' split
      · exact ht.2
      · decide
      · exact Nat.zero_le _
    · show (if _ then _ else if _ then _ else _ : List UInt8).length ≤ 300
      repeat' split
      · rw [List.length_take]; omega
      · rw [List.length_take]; omega
      · exact Nat.zero_le _
  unfold entL textE
  simp only [List.length_append, wideL_length, List.length_cons, List.length_nil]
  omega
theorem entsOf_len : ∀ cs : List Raw, (entsL (entsOf cs)).length ≤ cs.length * 321
  | [] => Nat.le_refl _
  | c :: l => by
    have h1 := entOf_len c
    have h2 := entsOf_len l
    show (entL (entOf c) ++ entsL (entsOf l)).length ≤ (l.length + 1) * 321
    rw [List.length_append]; omega
theorem batchXs_frame (u : Nat) (cs : List Raw) (n : Nat) (hn : cs.length ≤ n) (h1 : 1 ≤ n) : (frameL (u, batchXs cs)).length ≤ n * 321 + 5 := by
  rw [frameL_len]
  show (entsL (batchXs cs)).length + 1 + 1 + 3 ≤ _
  unfold batchXs
  split
  · have : (entsL [inboxE]).length = 16 := by decide
    omega
  · have h := entsOf_len (cs.take 10)
    have h2 : (cs.take 10).length ≤ cs.length := by rw [List.length_take]; omega
    have h3 : (cs.take 10).length * 321 ≤ n * 321 := Nat.mul_le_mul_right _ (by omega)
    omega
/-- the rows from i on -/
theorem RawsAt.part {w : World} {g off : Nat} {cs : List Raw} (h : RawsAt w (some ⟨g, off, none⟩) cs) (i n : Nat) : RawsAt w (some ⟨g, off + i * 6, none⟩) ((cs.drop i).take n) := by
  intro j c hc
  rw [List.getElem?_take] at hc
  split at hc
  · rw [List.getElem?_drop] at hc
    obtain ⟨g', off', h1, h2, h3⟩ := h (i + j) c hc
    cases h1
    exact ⟨g, off + i * 6, rfl, h2, by rw [show off + i * 6 + j * 6 = off + (i + j) * 6 by omega]; exact h3⟩
  · cases hc
/-- what stands behind one batch -/
def BatNew (u : Nat) (xs : List Ent) (wr : World) (p : Value) (wx : World) : Prop := ∃ (R : Nat) (v : Value), p = .pointer (some ⟨R, 0, none⟩) ∧ wr.heap.size ≤ R ∧ Has wx R [.int .i64 u, v] ∧ EntsAt wx v xs ∧ Below wr.heap.size wr wx
theorem bat_new {u : Nat} {xs : List Ent} {wr wx : World} {v : Value} (hv : EntsAt wx v xs) (hb : Below wr.heap.size wr wx) : BatNew u xs wr (.pointer (some ⟨wx.heap.size, 0, none⟩)) (wx.alloc (.cells #[.int .i64 u, v] 34)) :=
  ⟨wx.heap.size, v, rfl, hb.size, Has.alloc wx [.int .i64 u, v] 34, hv.down (ba (Below.refl _ _) _), ba hb _⟩
theorem bat_at {u R : Nat} {xs : List Ent} {wr wx : World} {v : Value} (hR : wr.heap.size ≤ R) (h : Has wx R [.int .i64 0, .slice none 0 0]) (hv : EntsAt wx v xs) (hb : Below wr.heap.size wr wx) :
    BatNew u xs wr (.pointer (some ⟨R, 0, none⟩)) ((wx.setCell ⟨R, 0, none⟩ (.int .i64 u)).setCell ⟨R, 1, none⟩ v) := by
  have h1 := h.set' (i := 0) (.int .i64 u) (by simp)
  refine ⟨R, v, rfl, hR, h1.set' (i := 1) v (by simp), ?_, (hb.setCell (p := ⟨R, 0, none⟩) hR _).setCell (p := ⟨R, 1, none⟩) hR _⟩
  refine (hv.kept (Go.Lib.grownBy_setB (World.grownBy.refl wx (some R)) 0 _) (fun b e s hs => ?_)).kept (Go.Lib.grownBy_setB (World.grownBy.refl _ (some R)) 1 _) (fun b e s hs => ?_)
  · obtain rfl := Option.some.inj e; rw [h.two.2.1] at hs; cases hs
  · obtain rfl := Option.some.inj e; rw [h1.two.2.1] at hs; cases hs
def OKB (b : Bat) : Prop := GoodB b ∧ (frameL b).length ≤ 968
/-- what batchesOf answers -/
def BatsPost (w : World) (e : Ending) (w' : World) : Prop := (∃ v bs, e = .returned v ∧ BatsAt w' v bs ∧ bs.length ≤ 26 ∧ ∀ b ∈ bs, OKB b) ∧ Below w.heap.size w w'

set_option maxHeartbeats 4000000 in
set_option maxRecDepth 20000 in
theorem batchesOf_any (a : Option Addr) (cap : Nat) (cs : List Raw) (w : World) (h : RawsAt w a cs) (hlen : cs.length ≤ 9223372036854775807) (hcap : cs.length ≤ cap) :
    Calls Tryd.prog 4 #[.slice a cs.length cap] w (BatsPost w) := by
  obtain ⟨i0, hi, hz0, hz1, hz2⟩ := info_parts infoBat
  have HI := Lib.hid hi; have HZ0 := Lib.hid hz0; have HZ1 := Lib.hid hz1; have HZ2 := Lib.hid hz2
  clear hi hz0 hz1 hz2
  have HR := Lib.hid h; clear h
  go_enter Tryd.func4, Tryd.ntmps4
  go_wp2_with fail
  go_loopw [3, 4] (fun v i wr => ∃ (j : Nat) (ps : List BV), j ≤ cs.length ∧ i = .int .i64 j ∧ ps.length ≤ j ∧ j ≤ 26 ∧ BRow wr w.heap.size v ps ∧ (∀ b ∈ ps.map Prod.fst, OKB b) ∧ Below w.heap.size w wr) (fun _ i _ => cs.length - (intOf i).toNat)
  case atStart => exact ⟨0, [], Nat.zero_le _, rfl, Nat.le_refl _, by omega, BRow.nil _ _, (fun b hb => by cases hb), Below.refl _ _⟩
  case round =>
    obtain ⟨j, ps, hj, rfl, hpl, hj26, hrow, hok, hb⟩ := hrel
    have hsz : w.heap.size ≤ wr.heap.size := hb.size
    by_cases hlt : j < cs.length ∧ j < 24
    · obtain ⟨hl, h24⟩ := hlt
      obtain ⟨c, hc⟩ : ∃ c, cs[j]? = some c := ⟨_, List.getElem?_eq_getElem hl⟩
      obtain ⟨g, off, ha, hg, hin⟩ := HR.out j c hc
      subst ha
      have hpk := pick_lt c.flags 3 (by omega)
      have hok0 := hin.2.2.2.2.2.2
      have hP : Hid (∀ w, Calls Tryd.prog 5 #[.int .i64 c.flags, .int .i64 3] w fun e w' => e = .returned (.int .i64 (pick c.flags (3 : Nat))) ∧ w = w') := fun w => picked_any c.flags 3 w hok0.2.2.2.1.1 hok0.2.2.2.1.2 (by omega) (by omega)
      obtain ⟨k, hk⟩ : ∃ k, k = pick c.flags (3 : Nat) := ⟨_, rfl⟩
      rw [← hk] at hP hpk
      obtain ⟨n, hn⟩ : ∃ n, n = min (1 + k) (cs.length - j) := ⟨_, rfl⟩
      have hn3 : n ≤ 3 := by omega
      have hn1 : 1 ≤ n := by omega
      have hnl : j + n ≤ cs.length := by omega
      obtain ⟨ds, hds⟩ : ∃ ds, ds = (cs.drop j).take n := ⟨_, rfl⟩
      have hdl : ds.length = n := by rw [hds, List.length_take, List.length_drop]; omega
      have hrd : RawsAt w (some ⟨g, off + j * 6, none⟩) ds := by rw [hds]; exact HR.out.part j n
      have hB : Hid (∀ w', Below w.heap.size w w' → Calls Tryd.prog 9 #[.slice (some ⟨g, off + j * 6, none⟩) n (cap - j), .int .i64 c.dest] w' fun e w'' => (∃ v, e = .returned (.agg #[.int .i64 (pick c.dest (3 : Nat)), v]) ∧ EntsAt w'' v (batchXs ds)) ∧ Below w'.heap.size w' w'') := by
        intro w' hb
        have := batchOf_any (some ⟨g, off + j * 6, none⟩) (cap - j) ds c.dest w' (hrd.down hb) (by omega) hok0.2.2.2.2.1
        rw [hdl] at this
        exact this
      have hu := pick_lt c.dest 3 (by omega)
      have hfr := batchXs_frame (pick c.dest (3 : Nat)) ds 3 (by omega) (by omega)
      obtain ⟨u, hu2⟩ : ∃ u, u = pick c.dest (3 : Nat) := ⟨_, rfl⟩
      rw [← hu2] at hB hu hfr
      have hgood : OKB (u, batchXs ds) := ⟨bcheck_ok hu (batchXs_len ds) (batchXs_form ds), by omega⟩
      obtain ⟨xs, hxs⟩ : ∃ xs, xs = batchXs ds := ⟨_, rfl⟩
      rw [← hxs] at hB hgood
      have HGOOD := Lib.hid hgood
      have hmn := Lib.hid (show min (1 + (k : Int)) ((cs.length : Int) - j) = n by
        rcases Nat.le_total (1 + k) (cs.length - j) with h | h
        · rw [hn, Nat.min_eq_left h, Int.min_eq_left (by omega)]; omega
        · rw [hn, Nat.min_eq_right h, Int.min_eq_right (by omega)]; omega)
      obtain ⟨m0, m1, m2, m3, m4, m5, _⟩ := hin.down hb
      have HROW := Lib.hid hrow; have HB := Lib.hid hb; have HOK := Lib.hid hok
      clear hu2 hxs hk hn hds hdl hrd hgood hfr hc hok0 hrow hb hok hin
      go_wp2_with fail
      refine (hP.out _).mono ?_
      rintro e w1 ⟨rfl, rfl⟩
      go_wp2_with fail
      try rw [hmn.out]
      have hjc : j < cap := by omega
      have hnc : j + n ≤ cap := by omega
      have hsub : (j : Int) + n - j = n := by omega
      have hdr := Below.drew (Below.refl wr.heap.size wr)
      have hda := ba (Below.refl wr.heap.size wr) (.cells #[.int .i64 0, .slice none 0 0] 34)
      have m4a := moved m4 hda (Nat.le_refl _)
      have hH : Hid (∀ w' : World, Has (w'.alloc (.cells #[.int .i64 0, .slice none 0 0] 34)) w'.heap.size [.int .i64 0, .slice none 0 0]) := fun w' => Has.alloc w' [.int .i64 0, .slice none 0 0] 34
      have s2 : 0 ≤ (j : Int) + n := by omega
      have s3 : ((j : Int) + n).toNat = j + n := by omega
      have s1 : IntKind.i64.wrap ((j : Int) + n) = (j : Int) + n := IntWalk.i64_in _ (by omega)
      have s4 : ((j : Int) + n).toNat - j = n := by omega
      clear hda
      go_upto_region 5 with fail
      go_cut [6] (BatNew u xs wr)
      case first =>
        go_region_with (go_at_call 9; refine (hB.out _ (by first | exact bt HB.out hdr | exact ba (bt HB.out hdr) _)).mono ?_; rintro e w3 ⟨⟨v3, rfl, hv3⟩, hb3⟩; have hv4 := hv3; obtain ⟨ua3, uc3, rfl, -⟩ := hv4; first | (have kk : Has w3 wr.heap.size [.int .i64 0, .slice none 0 0] := (hH.out wr.drew).down hb3; obtain ⟨k0, k1, k2, k3⟩ := kk.two) | (have kk := trivial))
        all_goals
          go_wp2_with fail
          go_meet
          case rel => first
            | exact bat_new hv3 (hdr.trans hb3)
            | exact bat_at (Nat.le_refl _) kk hv3 (bt (ba hdr _) hb3)
      case rest =>
        obtain ⟨R, v3, rfl, hR, hx, hv3, hb3⟩ := hcut
        obtain ⟨d0, d1, _, _⟩ := hx.two
        obtain ⟨G3, c3, rfl, -⟩ := id hv3
        have hrow3 := HROW.out.down hb3
        have HROW3 := Lib.hid (hrow3.down (ba (Below.refl wc.heap.size wc) (.cells #[.int .i64 u, .slice G3 xs.length c3] 34)))
        have HV3 := Lib.hid (hv3.down (ba (Below.refl wc.heap.size wc) (.cells #[.int .i64 u, .slice G3 xs.length c3] 34)))
        have HB3 := Lib.hid (ba (bt HB.out hb3) (.cells #[.int .i64 u, .slice G3 xs.length c3] 34))
        have hsz3 : w.heap.size ≤ wc.heap.size := (bt HB.out hb3).size
        clear hrow3 hv3 hb3 m0 m1 m2 m3 m4 m5 m4a hdr s1 s3 s4
        go_wp2_with (at_builtin; refine wpList_append_lies _ (by rfl) _ _ _ (by rfl) w.heap.size 34 i0 _ 2 32 Tryd.underlying23 HI.out HZ0.out HZ1.out HZ2.out rfl (by omega) u3 ps.length (pcells ps) (by rfl) HROW3.out.1 ⟨wc.heap.size, 0, none⟩ 1 1 [.int .i64 u, .slice G3 xs.length c3] (by rfl) (by rfl) (news_of wc _ _) (by simp [Value.oneCell']) (by omega) (by unfold maxLen; omega) (by omega) (by simp; omega) (wc.heap.size + 1) (by simp) ?_)
        intro g5 cap5 w5 hown5 hgrow5 hat5 hlt5
        have hb5 := below_row HB3.out (Nat.le_refl _) HROW3.out.1 (Nat.le_refl _) hgrow5
        have hrow5 := BRow.snoc HROW3.out HV3.out (b := (u, xs)) hown5 hgrow5
        have HB5 := Lib.hid hb5; have HROW5 := Lib.hid hrow5
        have hok5 : Hid (∀ b ∈ (ps ++ [((u, xs), Value.slice G3 xs.length c3)]).map Prod.fst, OKB b) := by
          intro b hb
          rw [List.map_append] at hb
          rcases List.mem_append.1 hb with hb | hb
          · exact HOK.out b hb
          · obtain rfl : b = (u, xs) := by simpa using hb
            exact HGOOD.out
        clear hgrow5 hat5 hown5 hb5 hrow5
        go_wp2_with fail
        go_roundw
        case rel => exact ⟨j + n, ps ++ [((u, xs), .slice G3 xs.length c3)], hnl, by go_num, by rw [List.length_append, List.length_singleton]; omega, by omega, HROW5.out, hok5.out, HB5.out⟩
        case measure => simp [intOf]; omega
    · have h24 : ps.length ≤ 26 := by omega
      have hend : Hid (BatsPost w (.returned u3) wr) := ⟨⟨_, _, rfl, hrow.bats, by rw [List.length_map]; omega, hok⟩, hb⟩
      by_cases h : j < cs.length
      · have h2 : decide ((j : Int) < 24) = false := decide_eq_false (by omega)
        go_wp2_with fail
        go_ret
        exact hend.out
      · have h2 : decide ((j : Int) < cs.length) = false := decide_eq_false (by omega)
        go_wp2_with fail
        go_ret
        exact hend.out
end Go.Proofs.YtaeejmggmgejcaaDoor
