/-
  DERIVED. AppendLast: the walk.
-/
import Derived.Test.YthllhakgcnfmcaaDoorBoxUids
namespace Go.Proofs.YthllhakgcnfmcaaDoor
open Go.RowKit

def NextLe (n : Nat) (s : St) : Prop := ∀ b ∈ s.boxes, b.next ≤ n
theorem NextLe.up {n k : Nat} {s : St} (h : NextLe n s) (hk : n ≤ k) : NextLe k s := fun b hb => Nat.le_trans (h b hb) hk
theorem nextLe_set {n : Nat} {s : St} {i : Nat} {b' : Bx} (h : NextLe n s) (hb : b'.next ≤ n) : NextLe n ⟨s.boxes.set i b', s.spool⟩ := by
  intro x hx
  rcases List.mem_or_eq_of_mem_set hx with hx | rfl
  · exact h x hx
  · exact hb
theorem nextLe_add {n i fl : Nat} {s t : St} {tx : List UInt8} (h : NextLe n s) (ht : addS s i fl tx = some t) : NextLe (n + 1) t := by
  unfold addS at ht
  split at ht
  · cases ht
  · rename_i b hb
    split at ht
    · cases ht
    · obtain rfl := Option.some.inj ht
      exact nextLe_set (h.up (Nat.le_succ n)) (Nat.succ_le_succ (h b (List.mem_of_getElem? hb)))
theorem nextLe_apply {n : Nat} {s : St} {x : Ent} (h : NextLe n s) (hn : 1 ≤ n) : NextLe (n + 1) (applyS s x).1 := by
  have hs := h.up (Nat.le_succ n)
  unfold applyS
  repeat' split
  all_goals first
    | exact hs
    | (rename_i ht; exact nextLe_add h ht)
    | (intro b hb; rcases List.mem_append.1 hb with hb | hb; exact hs b hb; obtain rfl := List.mem_singleton.1 hb; exact Nat.le_trans hn (Nat.le_succ n))
    | (refine nextLe_set hs ?_; simp only; exact hs _ (List.mem_of_getElem? (by assumption)))
theorem stOf_next (cs : List Raw) : NextLe 41 (stOf cs) := by
  unfold stOf
  have hl : (cs.take 40).length ≤ 40 := by rw [List.length_take]; omega
  generalize cs.take 40 = l at hl
  have key : ∀ (l : List Raw) (s : St) (n : Nat), 1 ≤ n → NextLe n s → NextLe (n + l.length) (l.foldl stepS s) := by
    intro l
    induction l with
    | nil => intro s n _ h; exact h
    | cons c l ih =>
      intro s n hn h
      have h1 : NextLe (n + 1) (stepS s c) := by
        unfold stepS
        split
        · rw [allS_one s _ (entOf_form c)]
          split
          · exact h.up (Nat.le_succ n)
          · exact nextLe_apply h hn
        · exact h.up (Nat.le_succ n)
      have := ih _ (n + 1) (by omega) h1
      rw [List.length_cons, show n + (l.length + 1) = n + 1 + l.length by omega]
      exact this
  refine (key l st0 1 (Nat.le_refl _) ?_).up (by omega)
  intro b hb
  obtain rfl := List.mem_singleton.1 hb
  exact Nat.le_refl _
/-- the first n of a row of one's own -/
theorem row_take {w : World} {base e size n k cap : Nat} {G : Option Addr} {xs : List Value} (h : w.ownsRow base e size (.slice G n cap) n xs) (hk : k ≤ n) (hG : 0 < n) : w.ownsRow base e size (.slice G k cap) k (xs.take (k * size)) := by
  rcases h.2 with ⟨_, h0⟩ | ⟨g, cap', cur, hv, hb, hg, hn, hm, hc, ht⟩
  · omega
  · cases hv
    have hle : k * size ≤ n * size := Nat.mul_le_mul_right _ hk
    refine ⟨by rw [List.length_take, h.1, Nat.min_eq_left hle], .inr ⟨g, cap, cur, rfl, hb, hg, by omega, hm, hc, ?_⟩⟩
    rw [← ht, List.take_take, Nat.min_eq_left hle]
/-- box i has another next Uid -/
theorem own_next {w : World} {base R i g cap n c : Nat} {s : St} {qs : List BQ} {vS : Value} {b : Bx} {G : Option Addr} (h : Opn w base R s qs (.slice (some ⟨g, 0, none⟩) s.boxes.length cap) vS) (hq : qs[i]? = some (b, .slice G b.mails.length c)) (hRg : R ≠ g) :
    OwnS (w.setCell ⟨g, i * 3 + 1, none⟩ (.int .i64 n)) base R ⟨s.boxes.set i ⟨b.name, n, b.mails⟩, s.spool⟩ := by
  have hql : s.boxes.length = qs.length := by rw [h.boxes, List.length_map]
  rw [hql] at h
  have hrow := h.rows.1 _ (List.mem_cons_self ..)
  obtain ⟨s1, g1⟩ := World.ownsRow.stored hrow (i * 3 + 1) (.int .i64 n)
  have e : (bxcells qs).set (i * 3 + 1) (.int .i64 n) = bxcells (qs.set i (⟨b.name, n, b.mails⟩, .slice G b.mails.length c)) := by
    rw [← bxcells_set qs i _ ⟨b.name, n, b.mails⟩ (.slice G b.mails.length c) hq rfl]
    congr 1
    have c2 := bxcells_at qs i 2 _ hq (by omega)
    obtain ⟨l2, e2⟩ := List.getElem?_eq_some_iff.1 (c2.trans (show _ = some (Value.slice G b.mails.length c) from rfl))
    rw [← e2, List.set_getElem_self]
  rw [show (rowB (.slice (some ⟨g, 0, none⟩) qs.length cap) qs).cells = bxcells qs from rfl, e] at s1
  have h1 := h.rows.put (i := 0) (r := rowB (.slice (some ⟨g, 0, none⟩) qs.length cap) qs) (r' := rowB (.slice (some ⟨g, 0, none⟩) qs.length cap) (qs.set i (⟨b.name, n, b.mails⟩, .slice G b.mails.length c))) rfl g1
    (by show World.ownsRow _ base 39 3 _ (qs.set i _).length _; rw [List.length_set]; exact s1) (.inl rfl)
  have hrest : (qs.set i (⟨b.name, n, b.mails⟩, .slice G b.mails.length c)).map rowM = qs.map rowM := by
    rw [List.map_set]
    obtain ⟨hil, e2⟩ := List.getElem?_eq_some_iff.1 hq
    have : rowM (⟨b.name, n, b.mails⟩, .slice G b.mails.length c) = (qs.map rowM)[i]'(by simpa using hil) := by rw [List.getElem_map, e2]; rfl
    rw [this, List.set_getElem_self]
  have hsame : (rowsOf qs (.slice (some ⟨g, 0, none⟩) qs.length cap) vS s.spool).set 0 (rowB (.slice (some ⟨g, 0, none⟩) qs.length cap) (qs.set i (⟨b.name, n, b.mails⟩, .slice G b.mails.length c))) = rowsOf (qs.set i (⟨b.name, n, b.mails⟩, .slice G b.mails.length c)) (.slice (some ⟨g, 0, none⟩) qs.length cap) vS s.spool := by
    unfold rowsOf
    rw [hrest]; rfl
  have hoff : OffR ((rowsOf qs (.slice (some ⟨g, 0, none⟩) qs.length cap) vS s.spool).set 0 (rowB (.slice (some ⟨g, 0, none⟩) qs.length cap) (qs.set i (⟨b.name, n, b.mails⟩, .slice G b.mails.length c)))) R := offR_put h.off (fun e => hRg (Option.some.inj e).symm)
  rw [hsame] at h1 hoff
  exact ⟨_, _, vS, by show s.boxes.set i _ = _; rw [List.map_set, h.boxes], h.has.else' hRg _, h.low, h1, hoff⟩
/-- mail k of an opened state's box -/
theorem row_mail {w : World} {base c k : Nat} {b : Bx} {G : Option Addr} {m : Mail} (h : (rowM (b, .slice G b.mails.length c)).At w base) (hk : b.mails[k]? = some m) :
    ∃ gm, G = some ⟨gm, 0, none⟩ ∧ base ≤ gm ∧ gm < w.heap.size ∧ b.mails.length ≤ c ∧ w.cell? ⟨gm, k * 3, none⟩ = some (.int .i64 m.uid) ∧ w.cell? ⟨gm, k * 3 + 1, none⟩ = some (.int .i64 m.flags) ∧ w.cell? ⟨gm, k * 3 + 2, none⟩ = some (.string ⟨m.text.toArray⟩) := by
  obtain ⟨hlt, -⟩ := List.getElem?_eq_some_iff.1 hk
  have hrow : w.ownsRow base 41 3 (.slice G b.mails.length c) b.mails.length (b.mails.flatMap mailC) := h
  obtain ⟨g, cap, hv, hb, hg⟩ := World.ownsRow.form hrow (by omega)
  cases hv
  have hc : b.mails.length ≤ c := by
    rcases hrow.2 with ⟨h, _⟩ | ⟨_, _, _, h, _, _, hc, _⟩
    · cases h
    · cases h; exact hc
  have q : ∀ j, j < 3 → w.cell? ⟨g, k * 3 + j, none⟩ = (mailC m)[j]? := fun j hj => (World.ownsRow.cellAt hrow (k * 3 + j) (by omega)).trans (mcells_at b.mails k j m hk hj)
  exact ⟨g, rfl, hb, hg, hc, q 0 (by omega), q 1 (by omega), q 2 (by omega)⟩

set_option maxHeartbeats 8000000 in
set_option maxRecDepth 20000 in
theorem appendLast_walk (a : Option Addr) (cap : Nat) (cs : List Raw) (c : Raw) (m : Int) (w : World) (h : RawsAt w a cs) (hlen : cs.length ≤ 9223372036854775807) (hok : RawOK c) (hm : w.cell? ⟨0, 0, none⟩ = some (.int .i64 m)) :
    Calls Tryd.prog 9 #[.slice a cs.length cap, .agg #[.int .i64 c.kind, .int .i64 c.box, .int .i64 c.uid, .int .i64 c.flags, .int .i64 c.dest, .string c.text]] w fun e w' => e = .returned (.bool true) ∧ Below w.heap.size w w' := by
  have hA0 := ba (Below.refl w.heap.size w) (.cells #[.int .i64 c.kind, .int .i64 c.box, .int .i64 c.uid, .int .i64 c.flags, .int .i64 c.dest, .string c.text] 24)
  have HZ := Lib.hid (Has.alloc w [.int .i64 c.kind, .int .i64 c.box, .int .i64 c.uid, .int .i64 c.flags, .int .i64 c.dest, .string c.text] 24)
  have HS := Lib.hid (state_any a cap cs m _ (h.down hA0) hlen (moved hm hA0 (Nat.le_refl _)))
  have hg := stOf_good cs; have hnx := stOf_next cs
  obtain ⟨s, hs⟩ : ∃ s, s = stOf cs := ⟨_, rfl⟩
  rw [← hs] at HS hg hnx
  have HNX := Lib.hid hnx
  obtain ⟨x, hx⟩ : ∃ x, x = entOf ⟨1, c.box, 0, c.flags, 0, c.text⟩ := ⟨_, rfl⟩
  have HE : Hid (∀ w', Calls Tryd.prog 13 #[.agg #[.int .i64 1, .int .i64 c.box, .int .i64 0, .int .i64 c.flags, .int .i64 0, .string c.text]] w' (EntPost x w')) := by
    rw [hx]; exact fun w' => entry_c ⟨1, c.box, 0, c.flags, 0, c.text⟩ w' (raw_ok (i64k 1 (by decide)) hok.2.1 i64z hok.2.2.2.1 i64z (by have := hok.2.2.2.2.2; unfold maxLen; omega))
  have hxf : formV x = 0 := by rw [hx]; exact entOf_form _
  have hxk : x.kind = 2 := by rw [hx]; rfl
  have HF := Lib.hid hxf; have HA0 := Lib.hid hA0
  have HG := Lib.hid hg; have HM := Lib.hid hm; have hsl := hg.spool; have hbl := hg.boxes
  have HK := Lib.hid hxk; have HSO := Lib.hid hs; have HXO := Lib.hid hx
  clear h hm hg hs hx hxf hxk hA0 hnx
  go_enter Tryd.func9, Tryd.ntmps9
  go_wp2_with fail
  refine HS.out.mono ?_
  rintro e w1 ⟨⟨G1, c1, G2, c2, rfl, h1, h2⟩, hb1⟩
  have HV1 := Lib.hid (VarS.new h1 h2 28)
  have hA1 := bt hb1 (ba (Below.refl w1.heap.size w1) (.cells #[.slice G1 s.boxes.length c1, .slice G2 s.spool.length c2] 28))
  have HB1 := Lib.hid (bt HA0.out hA1)
  have hz0 : w.heap.size ≤ w1.heap.size := by have := hb1.size; simp at this; omega
  have hzz : w.heap.size < w1.heap.size := by have := hb1.size; simp at this; omega
  have HZ1 := Lib.hid (HZ.out.down hA1)
  obtain ⟨z0, z1, z2, z3, z4, z5⟩ := HZ1.out.six
  clear h1 h2 hb1 hA1 HS HA0 HZ
  go_wp2_with fail
  refine (HE.out _).mono ?_
  rintro e w2 ⟨rfl, hb2⟩
  have hz1 : w1.heap.size < w2.heap.size := by have := hb2.size; simp at this; omega
  have hA2 := bt hb2 (ba (Below.refl w2.heap.size w2) (.cells #[.int .i64 x.kind, .string ⟨x.box.toArray⟩, .int .i64 x.uid, .int .i64 x.flags, .string ⟨x.to.toArray⟩, .string ⟨x.text.toArray⟩] 31))
  have HV2 := Lib.hid (HV1.out.down hA2); have HB2 := Lib.hid (bt HB1.out hA2)
  have HY2 := Lib.hid (Has.alloc w2 [.int .i64 x.kind, .string ⟨x.box.toArray⟩, .int .i64 x.uid, .int .i64 x.flags, .string ⟨x.to.toArray⟩, .string ⟨x.text.toArray⟩] 31)
  obtain ⟨c0, c1', -, -⟩ := HV2.out.1.two
  obtain ⟨y0, y1, y2, y3, y4, y5⟩ := HY2.out.six
  clear hA2 hb2 HV1 HB1 HE HZ1 z0 z1 z2 z3 z4 z5
  go_wp2_with fail
  obtain ⟨W2, hW2⟩ : ∃ W2, W2 = w2.alloc (.cells #[.int .i64 x.kind, .string ⟨x.box.toArray⟩, .int .i64 x.uid, .int .i64 x.flags, .string ⟨x.to.toArray⟩, .string ⟨x.text.toArray⟩] 31) := ⟨_, rfl⟩
  rw [← hW2] at HV2 HB2 HY2 ⊢
  have hz2 : w2.heap.size < W2.heap.size := by rw [hW2]; simp
  clear hW2 c0 c1' y0 y1 y2 y3 y4 y5
  obtain ⟨ib, hib⟩ : ∃ ib, ib = idx (findB s.boxes x.box) := ⟨_, rfl⟩
  have HKF : Hid (∀ w', SAt cBox w' (fun b => b ≠ w1.heap.size) (.slice G1 s.boxes.length c1) s.boxes → Calls Tryd.prog 15 #[.agg #[.slice G1 s.boxes.length c1, .slice G2 s.spool.length c2], .string ⟨x.box.toArray⟩] w' fun e w'' => e = .returned (.int .i64 ib) ∧ Below w'.heap.size w' w'') := by
    subst hib; intro w' h
    exact kfind_any _ _ _ _ _ _ _ _ h (by omega)
  have hroom := HG.out.room
  have hxt := (form_parts HF.out).2.2.2.1
  have HC : Hid ((ib = -1 ∧ allS s [x] = (s, 7)) ∨ ∃ (i : Nat) (b : Bx), ib = i ∧ s.boxes[i]? = some b ∧ ((b.mails.length = 30 ∧ allS s [x] = (s, 5)) ∨ (b.mails.length ≠ 30 ∧ 6000 < sumB s.boxes + x.text.length ∧ allS s [x] = (s, 5)) ∨ (b.mails.length ≠ 30 ∧ sumB s.boxes + x.text.length ≤ 6000 ∧
      allS s [x] = (⟨s.boxes.set i ⟨b.name, b.next + 1, b.mails ++ [⟨b.next, x.flags, x.text⟩]⟩, s.spool⟩, 0)))) := by
    cases hf : findB s.boxes x.box with
    | none => exact .inl ⟨by rw [hib, hf]; rfl, none_box (by have := HK.out; omega) (by have := HK.out; omega) HF.out hf⟩
    | some i =>
      obtain ⟨hi, -⟩ := findB_some hf
      have hbi : s.boxes[i]? = some s.boxes[i] := List.getElem?_eq_getElem hi
      have hn := HNX.out _ (List.mem_of_getElem? hbi)
      refine .inr ⟨i, s.boxes[i], by rw [hib, hf]; rfl, hbi, ?_⟩
      by_cases h30 : s.boxes[i].mails.length = 30
      · exact .inl ⟨h30, append_full HK.out HF.out hf hbi (.inl h30)⟩
      · by_cases hq : 6000 < sumB s.boxes + x.text.length
        · exact .inr (.inl ⟨h30, hq, append_full HK.out HF.out hf hbi (.inr (.inr hq))⟩)
        · exact .inr (.inr ⟨h30, by omega, append_ok HK.out HF.out hf hbi (by omega)⟩)
  clear hib
  rcases HC.out with ⟨rfl, hr⟩ | ⟨i, b, rfl, hbi, hcase⟩
  · have HR := Lib.hid hr
    clear hr HC
    refine (apply_err HR.out (by decide) _ _ _ m _ HV2.out.2.1 HV2.out.2.2 HG.out HF.out (moved HM.out HB2.out (Nat.le_refl _))).mono ?_
    rintro e w3 ⟨rfl, hb3⟩
    have hA3 := bt hb3 (ba (Below.refl w3.heap.size w3) (.cells #[.slice none 0 0, .slice none 0 0] 28))
    have HV3 := Lib.hid (HV2.out.down hA3); have HY3 := Lib.hid (HY2.out.down hA3); have HB3 := Lib.hid (bt HB2.out hA3)
    clear hb3 hA3 HV2 HY2 HB2
    obtain ⟨c0, c1', -, -⟩ := HV3.out.1.two
    obtain ⟨-, y1, -, -, -, -⟩ := HY3.out.six
    go_wp2_with fail
    refine (HKF.out _ HV3.out.2.1).mono ?_
    rintro e w4 ⟨rfl, hb4⟩
    have HB4 := Lib.hid (bt HB3.out hb4); have HV4 := Lib.hid (HV3.out.down hb4); have HY4 := Lib.hid (HY3.out.down hb4)
    clear c0 c1' y1 hb4 HV3 HY3 HB3
    go_wp2_with fail
    go_ret
    exact ⟨rfl, HB4.out⟩
  · obtain ⟨hil, rfl⟩ := List.getElem?_eq_some_iff.1 hbi
    obtain ⟨b, hb⟩ : ∃ b, b = s.boxes[i] := ⟨_, rfl⟩
    rw [← hb] at hcase hbi
    have HBI : Hid (∀ h, s.boxes[i]'h = b) := fun _ => hb.symm
    have HIL := Lib.hid hil; have HBX := Lib.hid hbi
    have hbm := (HG.out.ok b (List.mem_of_getElem? hbi)).2.2.2.1
    have hbx := HNX.out b (List.mem_of_getElem? hbi)
    clear hbi hil HC hb
    rcases hcase with ⟨h30, hr⟩ | ⟨h30, hq, hr⟩ | ⟨h30, hq, hr⟩
    · have HR := Lib.hid hr
      have q1 : ((b.mails.length : Int) == 30) = true := by rw [h30]; rfl
      clear hr h30
      refine (apply_err HR.out (by decide) _ _ _ m _ HV2.out.2.1 HV2.out.2.2 HG.out HF.out (moved HM.out HB2.out (Nat.le_refl _))).mono ?_
      rintro e w3 ⟨rfl, hb3⟩
      have hA3 := bt hb3 (ba (Below.refl w3.heap.size w3) (.cells #[.slice none 0 0, .slice none 0 0] 28))
      have HV3 := Lib.hid (HV2.out.down hA3); have HY3 := Lib.hid (HY2.out.down hA3); have HB3 := Lib.hid (bt HB2.out hA3)
      clear hb3 hA3 HV2 HY2 HB2
      obtain ⟨c0, c1', -, -⟩ := HV3.out.1.two
      obtain ⟨-, y1, -, -, -, -⟩ := HY3.out.six
      go_wp2_with fail
      refine (HKF.out _ HV3.out.2.1).mono ?_
      rintro e w4 ⟨rfl, hb4⟩
      have HB4 := Lib.hid (bt HB3.out hb4); have HV4 := Lib.hid (HV3.out.down hb4); have HY4 := Lib.hid (HY3.out.down hb4)
      clear c0 c1' y1 hb4 HV3 HY3 HB3
      obtain ⟨c0, c1', -, -⟩ := HV4.out.1.two
      go_wp2_with fail
      refine (Size_any s _ _ _ m _ HV4.out.2.1 HV4.out.2.2 HG.out (moved HM.out HB4.out (Nat.le_refl _))).mono ?_
      rintro e w5 ⟨rfl, hb5⟩
      have HB5 := Lib.hid (bt HB4.out hb5); have HV5 := Lib.hid (HV4.out.down hb5); have HY5 := Lib.hid (HY4.out.down hb5)
      have hz5 := hb5.size
      clear c0 c1' hb5 HV4 HY4 HB4
      obtain ⟨c0, c1', -, -⟩ := HV5.out.1.two
      obtain ⟨g, off, gm, gc, rfl, hF, hg, hgc, hgm, p0, p1, p2⟩ := box_get HV5.out.2.1 (Below.refl _ _) i HIL.out
      rw [HBI.out HIL.out] at hgc hgm p0 p1 p2
      have hil := HIL.out
      have hA6 := ba (Below.refl w5.heap.size w5) (.cells #[.string ⟨b.name.toArray⟩, .int .i64 b.next, .slice gm b.mails.length gc] 39)
      have HN6 := Lib.hid (Has.alloc w5 [.string ⟨b.name.toArray⟩, .int .i64 b.next, .slice gm b.mails.length gc] 39)
      have n2 := HN6.out.1 2 _ rfl
      have HB6 := Lib.hid (bt HB5.out hA6); have HV6 := Lib.hid (HV5.out.down hA6); have HY6 := Lib.hid (HY5.out.down hA6)
      obtain ⟨-, -, -, -, -, y5⟩ := HY6.out.six
      clear hA6 HB5 HV5 HY5 hgm
      go_wp2_with fail
      go_ret
      exact ⟨rfl, HB6.out⟩
    · have HR := Lib.hid hr
      have q1 : ((b.mails.length : Int) == 30) = false := by simp; omega
      have q2 : decide ((6000 : Int) < (sumB s.boxes : Int) + x.text.length) = true := decide_eq_true (by omega)
      clear hr h30
      refine (apply_err HR.out (by decide) _ _ _ m _ HV2.out.2.1 HV2.out.2.2 HG.out HF.out (moved HM.out HB2.out (Nat.le_refl _))).mono ?_
      rintro e w3 ⟨rfl, hb3⟩
      have hA3 := bt hb3 (ba (Below.refl w3.heap.size w3) (.cells #[.slice none 0 0, .slice none 0 0] 28))
      have HV3 := Lib.hid (HV2.out.down hA3); have HY3 := Lib.hid (HY2.out.down hA3); have HB3 := Lib.hid (bt HB2.out hA3)
      clear hb3 hA3 HV2 HY2 HB2
      obtain ⟨c0, c1', -, -⟩ := HV3.out.1.two
      obtain ⟨-, y1, -, -, -, -⟩ := HY3.out.six
      go_wp2_with fail
      refine (HKF.out _ HV3.out.2.1).mono ?_
      rintro e w4 ⟨rfl, hb4⟩
      have HB4 := Lib.hid (bt HB3.out hb4); have HV4 := Lib.hid (HV3.out.down hb4); have HY4 := Lib.hid (HY3.out.down hb4)
      clear c0 c1' y1 hb4 HV3 HY3 HB3
      obtain ⟨c0, c1', -, -⟩ := HV4.out.1.two
      go_wp2_with fail
      refine (Size_any s _ _ _ m _ HV4.out.2.1 HV4.out.2.2 HG.out (moved HM.out HB4.out (Nat.le_refl _))).mono ?_
      rintro e w5 ⟨rfl, hb5⟩
      have HB5 := Lib.hid (bt HB4.out hb5); have HV5 := Lib.hid (HV4.out.down hb5); have HY5 := Lib.hid (HY4.out.down hb5)
      have hz5 := hb5.size
      clear c0 c1' hb5 HV4 HY4 HB4
      obtain ⟨c0, c1', -, -⟩ := HV5.out.1.two
      obtain ⟨g, off, gm, gc, rfl, hF, hg, hgc, hgm, p0, p1, p2⟩ := box_get HV5.out.2.1 (Below.refl _ _) i HIL.out
      rw [HBI.out HIL.out] at hgc hgm p0 p1 p2
      have hil := HIL.out
      have hA6 := ba (Below.refl w5.heap.size w5) (.cells #[.string ⟨b.name.toArray⟩, .int .i64 b.next, .slice gm b.mails.length gc] 39)
      have HN6 := Lib.hid (Has.alloc w5 [.string ⟨b.name.toArray⟩, .int .i64 b.next, .slice gm b.mails.length gc] 39)
      have n2 := HN6.out.1 2 _ rfl
      have HB6 := Lib.hid (bt HB5.out hA6); have HV6 := Lib.hid (HV5.out.down hA6); have HY6 := Lib.hid (HY5.out.down hA6)
      obtain ⟨-, -, -, -, -, y5⟩ := HY6.out.six
      clear hA6 HB5 HV5 HY5 hgm
      go_wp2_with fail
      go_ret
      exact ⟨rfl, HB6.out⟩
    · have HR := Lib.hid hr
      have q1 : ((b.mails.length : Int) == 30) = false := by simp; omega
      have q2 : decide ((6000 : Int) < (sumB s.boxes : Int) + x.text.length) = false := decide_eq_false (by omega)
      obtain ⟨T, hT⟩ : ∃ T : St, T = ⟨s.boxes.set i ⟨b.name, b.next + 1, b.mails ++ [⟨b.next, x.flags, x.text⟩]⟩, s.spool⟩ := ⟨_, rfl⟩
      rw [← hT] at hr
      have HR := Lib.hid hr
      have HTI : Hid (T.boxes[i]? = some ⟨b.name, b.next + 1, b.mails ++ [⟨b.next, x.flags, x.text⟩]⟩) := by unfold Hid; rw [hT]; exact set_get HBX.out
      have HTL : Hid (T.boxes.length = s.boxes.length) := by unfold Hid; rw [hT]; simp
      have HTE := Lib.hid hT
      have HL2 := Lib.hid (And.intro (box_lower HV2.out.2.1) (flat_lower HV2.out.2.2))
      clear hr h30 hT
      refine (apply_ok HR.out _ _ _ m _ HV2.out.2.1 HV2.out.2.2 HG.out HF.out (moved HM.out HB2.out (Nat.le_refl _))).mono ?_
      rintro e w3 ⟨⟨E1, e1, E2, e2, rfl, hv⟩, hb3⟩
      have hA3 := bt hb3 (ba (Below.refl w3.heap.size w3) (.cells #[.slice E1 T.boxes.length e1, .slice E2 T.spool.length e2] 28))
      have hz3 : W2.heap.size ≤ w3.heap.size := hb3.size
      obtain ⟨qs, hO⟩ := OwnS.into hv hz3 28
      obtain ⟨tg, tcap, -, -, htv, htg, htgw, -, -, -, -, -, htRg, -⟩ := hO.box HTI.out
      cases htv
      rw [HTL.out] at hO hA3 ⊢
      have htgl : tg < w3.heap.size := by simp at htgw; omega
      have HT3 := Lib.hid hO
      have HL3 := Lib.hid (And.intro (HL2.out.1.down hA3) (HL2.out.2.down hA3))
      have HV3 := Lib.hid (HV2.out.down hA3); have HY3 := Lib.hid (HY2.out.down hA3); have HB3 := Lib.hid (bt HB2.out hA3)
      clear hb3 hA3 HV2 HY2 HB2 hv hO
      obtain ⟨c0, c1', -, -⟩ := HV3.out.1.two
      obtain ⟨-, y1, -, -, -, -⟩ := HY3.out.six
      go_wp2_with fail
      refine (HKF.out _ HV3.out.2.1).mono ?_
      rintro e w4 ⟨rfl, hb4⟩
      have HB4 := Lib.hid (bt HB3.out hb4); have HV4 := Lib.hid (HV3.out.down hb4); have HY4 := Lib.hid (HY3.out.down hb4); have HT4 := Lib.hid (HT3.out.down hb4); have HL4 := Lib.hid (And.intro (HL3.out.1.down hb4) (HL3.out.2.down hb4))
      have hz4 := hb4.size
      simp only [World.size_alloc] at hz4
      clear c0 c1' y1 hb4 HV3 HY3 HB3 HT3
      obtain ⟨c0, c1', -, -⟩ := HV4.out.1.two
      go_wp2_with fail
      refine (Size_any s _ _ _ m _ HV4.out.2.1 HV4.out.2.2 HG.out (moved HM.out HB4.out (Nat.le_refl _))).mono ?_
      rintro e w5 ⟨rfl, hb5⟩
      have HB5 := Lib.hid (bt HB4.out hb5); have HV5 := Lib.hid (HV4.out.down hb5); have HY5 := Lib.hid (HY4.out.down hb5); have HT5 := Lib.hid (HT4.out.down hb5); have HL5 := Lib.hid (And.intro (HL4.out.1.down hb5) (HL4.out.2.down hb5))
      have hz5 := hb5.size
      clear c0 c1' hb5 HV4 HY4 HB4 HT4
      obtain ⟨c0, c1', -, -⟩ := HV5.out.1.two
      obtain ⟨g, off, gm, gc, rfl, hF, hg, hgc, hgm, p0, p1, p2⟩ := box_get HV5.out.2.1 (Below.refl _ _) i HIL.out
      rw [HBI.out HIL.out] at hgc hgm p0 p1 p2
      have hil := HIL.out
      have hA6 := ba (Below.refl w5.heap.size w5) (.cells #[.string ⟨b.name.toArray⟩, .int .i64 b.next, .slice gm b.mails.length gc] 39)
      have HN6 := Lib.hid (Has.alloc w5 [.string ⟨b.name.toArray⟩, .int .i64 b.next, .slice gm b.mails.length gc] 39)
      have n2 := HN6.out.1 2 _ rfl
      have HB6 := Lib.hid (bt HB5.out hA6); have HV6 := Lib.hid (HV5.out.down hA6); have HY6 := Lib.hid (HY5.out.down hA6); have HT6 := Lib.hid (HT5.out.down hA6); have HL6 := Lib.hid (And.intro (HL5.out.1.down hA6) (HL5.out.2.down hA6))
      obtain ⟨-, -, -, -, -, y5⟩ := HY6.out.six
      clear hA6 HB5 HV5 HY5 hgm HT5
      go_wp2_with fail
      obtain ⟨W6, hW6⟩ : ∃ W6, W6 = w5.alloc (.cells #[.string ⟨b.name.toArray⟩, .int .i64 b.next, .slice gm b.mails.length gc] 39) := ⟨_, rfl⟩
      rw [← hW6] at HB6 HV6 HY6 HT6 HN6 HL6 ⊢
      have hz6 : w5.heap.size < W6.heap.size := by rw [hW6]; simp
      clear hW6 c0 c1' p0 p1 p2 n2 y5
      -- T, opened
      obtain ⟨tg2, tcap2, tG, tc, htv, -, -, htil, htq, htrow, htg1, htR1, htR2, -, r0, r1, r2, rf⟩ := HT6.out.box HTI.out
      rw [HTL.out] at htv htil
      cases htv
      obtain ⟨tgm, rfl, htgm, htgmw, htc, o0, o1, o2⟩ := row_mail (k := b.mails.length) (m := ⟨b.next, x.flags, x.text⟩) htrow (by simp)
      obtain ⟨t0, t1, -, -⟩ := HT6.out.has.two
      obtain ⟨c0, c1', -, -⟩ := HV6.out.1.two
      have n2 := HN6.out.1 2 _ rfl
      have hlm : (b.mails ++ [(⟨b.next, x.flags, x.text⟩ : Mail)]).length = b.mails.length + 1 := by simp
      simp only [hlm] at r2 htq htrow htc htR1 htg1
      simp only at r1 o0 o1 o2
      clear hlm
      go_quiet (fail)
      have hd := below_drewN W6 nq
      obtain ⟨W7, hW7⟩ : ∃ W7, W7 = W6.drewN nq := ⟨_, rfl⟩
      rw [← hW7] at hd ⊢
      have HB7 := Lib.hid (bt HB6.out hd); have HV7 := Lib.hid (HV6.out.down hd); have HY7 := Lib.hid (HY6.out.down hd); have HT7 := Lib.hid (HT6.out.down hd); have HN7 := Lib.hid (HN6.out.down hd); have HL7 := Lib.hid (And.intro (HL6.out.1.down hd) (HL6.out.2.down hd))
      have hz7 := hd.size
      replace t0 := moved t0 hd (Nat.le_refl _); replace r2 := moved r2 hd (Nat.le_refl _); replace n2 := moved n2 hd (Nat.le_refl _); replace o0 := moved o0 hd (Nat.le_refl _); replace o1 := moved o1 hd (Nat.le_refl _); replace o2 := moved o2 hd (Nat.le_refl _)
      clear hd hW7 t1 c0 c1' r0 r1 rf HB6 HV6 HY6 HT6
      have hda := ba (Below.refl W7.heap.size W7) (.cells #[.int .i64 0, .int .i64 0, .string ⟨#[]⟩] 41)
      have t0a := moved t0 hda (Nat.le_refl _); have r2a := moved r2 hda (Nat.le_refl _); have n2a := moved n2 hda (Nat.le_refl _); have o0a := moved o0 hda (Nat.le_refl _); have o1a := moved o1 hda (Nat.le_refl _); have o2a := moved o2 hda (Nat.le_refl _)
      clear hda
      go_wp2_with fail
      go_region
      obtain ⟨W8, hW8⟩ : ∃ W8, W8 = (W7.alloc (.cells #[.int .i64 b.next, .int .i64 x.flags, .string ⟨x.text.toArray⟩] 41)).drew := ⟨_, rfl⟩
      have hA8 : Below W7.heap.size W7 W8 := by rw [hW8]; exact Below.drew (ba (Below.refl _ _) _)
      have HM8 : Hid (Has W8 W7.heap.size [.int .i64 b.next, .int .i64 x.flags, .string ⟨x.text.toArray⟩]) := by
        unfold Hid; rw [hW8]; exact (Has.alloc W7 [.int .i64 b.next, .int .i64 x.flags, .string ⟨x.text.toArray⟩] 41).down (Below.drew (Below.refl _ _))
      rw [← hW8]
      clear hW8 t0a r2a n2a o0a o1a o2a o0 o1 o2 t0 r2 htrow
      have HB8 := Lib.hid (bt HB7.out hA8); have HV8 := Lib.hid (HV7.out.down hA8); have HY8 := Lib.hid (HY7.out.down hA8); have HT8 := Lib.hid (HT7.out.down hA8); have HN8 := Lib.hid (HN7.out.down hA8); have HL8 := Lib.hid (And.intro (HL7.out.1.down hA8) (HL7.out.2.down hA8))
      replace n2 := moved n2 hA8 (Nat.le_refl _)
      have hz8 := hA8.size
      clear hA8 HB7 HV7 HY7 HT7
      obtain ⟨tg', tcap', tG', tc', htv', -, -, -, htq8, htrow8, -, htR8, htRg8, -, -, -, r2, rf⟩ := HT8.out.box HTI.out
      rw [HTL.out] at htv'
      cases htv'
      obtain ⟨tgm', rfl, -, -, htc8, -, -, -⟩ := row_mail (k := b.mails.length) (m := ⟨b.next, x.flags, x.text⟩) htrow8 (by simp)
      have hlm : (b.mails ++ [(⟨b.next, x.flags, x.text⟩ : Mail)]).length = b.mails.length + 1 := by simp
      simp only [hlm] at r2 htc8
      obtain ⟨t0, t1, -, -⟩ := HT8.out.has.two
      have hrow9 : W8.ownsRow W2.heap.size 41 3 (.slice (some ⟨tgm', 0, none⟩) b.mails.length tc') b.mails.length (b.mails.flatMap mailC) := by
        have := row_take (k := b.mails.length) (show W8.ownsRow W2.heap.size 41 3 (.slice (some ⟨tgm', 0, none⟩) (b.mails ++ [(⟨b.next, x.flags, x.text⟩ : Mail)]).length tc') (b.mails ++ [(⟨b.next, x.flags, x.text⟩ : Mail)]).length ((b.mails ++ [(⟨b.next, x.flags, x.text⟩ : Mail)]).flatMap mailC) from htrow8) (by simp) (by simp)
        rwa [List.flatMap_append, List.take_left' (by rw [mcells_len])] at this
      have hO9 := (own_mails (l := b.mails) (show Opn W8 _ _ T qs (.slice (some ⟨tg, 0, none⟩) T.boxes.length e1) _ by rw [HTL.out]; exact HT8.out) htq8 (World.grownBy.refl _ _) hrow9 rfl htR8 htRg8).down (Below.drew (Below.refl _ _))
      have HO9 := Lib.hid hO9
      clear hlm hO9 hrow9 htrow8 htq8 htR8 htRg8
      go_wp2_with fail
      go_region
      obtain ⟨W9, hW9⟩ : ∃ W9, W9 = (W8.setCell ⟨tg, i * 3 + 2, none⟩ (.slice (some ⟨tgm', 0, none⟩) b.mails.length tc')).drew := ⟨_, rfl⟩
      have hdw := Below.drew (Below.refl (W8.setCell ⟨tg, i * 3 + 2, none⟩ (.slice (some ⟨tgm', 0, none⟩) b.mails.length tc')).heap.size (W8.setCell ⟨tg, i * 3 + 2, none⟩ (.slice (some ⟨tgm', 0, none⟩) b.mails.length tc')))
      have hgr9 := Go.Lib.grownBy_setB (World.grownBy.refl W8 (some tg)) (i * 3 + 2) (.slice (some ⟨tgm', 0, none⟩) b.mails.length tc')
      have move9 : ∀ {b' : Nat} {vs : List Value}, Has W8 b' vs → b' ≠ tg → Has W9 b' vs := by intro b' vs h hne; rw [hW9]; exact (h.else' hne _).down hdw
      have HL9 : Hid (SAt cBox W9 (fun b => b ≠ w1.heap.size ∧ b < W2.heap.size) (.slice (some ⟨g, off, none⟩) s.boxes.length c1) s.boxes ∧ SAt cEnt W9 (fun b => b ≠ w1.heap.size ∧ b < W2.heap.size) (.slice G2 s.spool.length c2) s.spool) := by
        unfold Hid; rw [hW9]
        exact ⟨(HL8.out.1.stable (Same.of_grown hgr9 (fun b e hh => by have := Option.some.inj e; have := hh.2; omega)) hgr9.size).down hdw, (HL8.out.2.stable (Same.of_grown hgr9 (fun b e hh => by have := Option.some.inj e; have := hh.2; omega)) hgr9.size).down hdw⟩
      have HV9 := Lib.hid (move9 HV8.out.1 (by omega)); have HY9 := Lib.hid (move9 HY8.out (by omega)); have HN9 := Lib.hid (move9 HN8.out (by omega)); have HM9 := Lib.hid (move9 HM8.out (by omega)); have HX9 := Lib.hid (move9 HT8.out.has (by omega))
      have HB9 : Hid (Below w.heap.size w W9) := by unfold Hid; rw [hW9]; exact bt (HB8.out.setCell (p := ⟨tg, i * 3 + 2, none⟩) (by show w.heap.size ≤ tg; omega) _) hdw
      rw [← hW9] at HO9 ⊢
      clear hW9 hdw hgr9 move9 HV8 HY8 HN8 HM8 HT8 HB8 HL8 t0 t1 r2 rf n2
      obtain ⟨T9, hT9⟩ : ∃ T9 : St, T9 = ⟨T.boxes.set i ⟨b.name, b.next + 1, b.mails⟩, T.spool⟩ := ⟨_, rfl⟩
      rw [← hT9] at HO9
      have hT9i : T9.boxes[i]? = some ⟨b.name, b.next + 1, b.mails⟩ := by rw [hT9]; exact set_get HTI.out
      have hT9l : T9.boxes.length = s.boxes.length := by rw [hT9]; simp [HTL.out]
      have hT9n : (⟨T9.boxes.set i ⟨b.name, b.next, b.mails⟩, T9.spool⟩ : St) = s := by
        rw [hT9, HTE.out]
        simp only [List.set_set]
        have e : s.boxes.set i ⟨b.name, b.next, b.mails⟩ = s.boxes := by
          rw [show (⟨b.name, b.next, b.mails⟩ : Bx) = s.boxes[i]'HIL.out from (HBI.out HIL.out).symm]
          exact List.set_getElem_self _
        rw [e]
      obtain ⟨qs9, vB9, vS9, hO⟩ := HO9.out.opn
      obtain rfl : vB9 = .slice (some ⟨tg, 0, none⟩) s.boxes.length e1 := Option.some.inj (hO.has.two.1.symm.trans HX9.out.two.1)
      obtain rfl : vS9 = .slice E2 T.spool.length e2 := Option.some.inj (hO.has.two.2.1.symm.trans HX9.out.two.2.1)
      obtain ⟨tg9, tcap9, tG9, tc9, htv9, -, -, -, htq9, -, -, -, htR9, hbrow, -, r1, -, -⟩ := hO.box hT9i
      rw [hT9l] at htv9
      cases htv9
      have hql9 : T9.boxes.length = qs9.length := by rw [hO.boxes, List.length_map]
      rw [hql9] at hbrow
      have rf1 := World.ownsRow.frozenAt hbrow (i * 3 + 1)
      rw [← hql9, hT9l] at hbrow
      have hO10 := own_next (n := b.next) (show Opn W9 _ _ T9 qs9 (.slice (some ⟨tg, 0, none⟩) T9.boxes.length e1) _ by rw [hT9l]; exact hO) htq9 htR9
      simp only at hO10
      rw [hT9n] at hO10
      have HO10 := Lib.hid hO10
      clear hO10 htq9 hbrow hO hql9 hT9i hT9n hT9 hT9l
      have hgr10 := Go.Lib.grownBy_setB (World.grownBy.refl W9 (some tg)) (i * 3 + 1) (.int .i64 b.next)
      obtain ⟨W10, hW10⟩ : ∃ W10, W10 = W9.setCell ⟨tg, i * 3 + 1, none⟩ (.int .i64 b.next) := ⟨_, rfl⟩
      have HL10 : Hid (SAt cBox W10 (fun b => b ≠ w1.heap.size ∧ b < W2.heap.size) (.slice (some ⟨g, off, none⟩) s.boxes.length c1) s.boxes ∧ SAt cEnt W10 (fun b => b ≠ w1.heap.size ∧ b < W2.heap.size) (.slice G2 s.spool.length c2) s.spool) := by
        unfold Hid; rw [hW10]
        exact ⟨HL9.out.1.stable (Same.of_grown hgr10 (fun b e hh => by have := Option.some.inj e; have := hh.2; omega)) hgr10.size, HL9.out.2.stable (Same.of_grown hgr10 (fun b e hh => by have := Option.some.inj e; have := hh.2; omega)) hgr10.size⟩
      have HB10 : Hid (Below w.heap.size w W10) := by unfold Hid; rw [hW10]; exact HB9.out.setCell (p := ⟨tg, i * 3 + 1, none⟩) (by show w.heap.size ≤ tg; omega) _
      obtain ⟨c0, c1', -, -⟩ := (HV9.out.else' (c := tg) (by omega) (i := i * 3 + 1) (.int .i64 b.next)).two
      obtain ⟨-, -, -, y3, -, y5⟩ := (HY9.out.else' (c := tg) (by omega) (i := i * 3 + 1) (.int .i64 b.next)).six
      have n1 := (HN9.out.else' (c := tg) (by omega) (i := i * 3 + 1) (.int .i64 b.next)).1 1 _ rfl
      have hm10 := HM9.out.else' (c := tg) (by omega) (i := i * 3 + 1) (.int .i64 b.next)
      have m0 := hm10.1 0 _ rfl; have m1 := hm10.1 1 _ rfl; have m2 := hm10.1 2 _ rfl
      obtain ⟨t0, t1, -, -⟩ := HX9.out.two
      obtain ⟨t0a, t1a, -, -⟩ := (HX9.out.else' (c := tg) (by omega) (i := i * 3 + 1) (.int .i64 b.next)).two
      rw [← hW10] at HO10
      clear hm10 hgr10
      simp only at r1
      have r1' : W9.cell? ⟨tg, i * 3 + 1, none⟩ = some (.int .i64 ((b.next : Int) + 1)) := by rw [r1]; simp
      clear r1
      go_wp2_with fail
      rw [← hW10] at t0a t1a ⊢
      clear hW10 c0 c1' y3 y5 n1 m0 m1 m2 t0 t1 r1' rf1
      obtain ⟨qs10, vB10, vS10, hO⟩ := HO10.out.opn
      obtain rfl : vB10 = .slice (some ⟨tg, 0, none⟩) s.boxes.length e1 := Option.some.inj (hO.has.two.1.symm.trans t0a)
      obtain rfl : vS10 = .slice E2 T.spool.length e2 := Option.some.inj (hO.has.two.2.1.symm.trans t1a)
      have hk1 := hO.rows.boxes (F := fun _ => True) (fun _ _ => trivial)
      rw [← hO.boxes] at hk1
      refine (same_any s _ _ _ _ _ _ _ HL10.out.1 HL10.out.2 hk1 (hO.rows.spool (F := fun _ => True) (fun _ _ => trivial)) (by omega) (by omega) (good_mails HG.out)).mono ?_
      rintro e w11 ⟨rfl, hb11⟩
      have HB11 := Lib.hid (bt HB10.out hb11)
      clear hb11 hk1 hO t0a t1a
      go_wp2_with fail
      go_ret
      exact ⟨rfl, HB11.out⟩
end Go.Proofs.YthllhakgcnfmcaaDoor
