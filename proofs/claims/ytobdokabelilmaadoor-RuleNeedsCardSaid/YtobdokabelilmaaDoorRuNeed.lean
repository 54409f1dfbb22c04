/-
  DERIVED. 'needs' and 'needsTest' of postroomkeep: the walks.
-/
import Derived.Test.YtobdokabelilmaaDoorRuAll
namespace Go.Proofs.YtobdokabelilmaaDoor.Sc
open Go.RowKit

def BoolPost (b : Bool) (w : World) (e : Ending) (w' : World) : Prop := e = .returned (.bool b) ∧ Below w.heap.size w w'
theorem ret_bool {a b : Bool} (h : a = b) : Ending.returned (.bool a) = .returned (.bool b) := by rw [h]
def TestN (n : Nat) : Prop := ∀ (t : Tst) (vs : List Value) (F : Dom) (w : World), (cTst n).rep w F t vs → LenTs t →
    Calls Tryd.prog 38 #[.agg vs.toArray] w (BoolPost (needT t) w)
theorem needTs_step (l : List Tst) (j : Nat) (hj : j < l.length) : needTs (l.drop j) = (needT l[j] || needTs (l.drop (j + 1))) := by
  rw [List.drop_eq_getElem_cons hj, needTs]
theorem needCs_step (l : List Cmd) (j : Nat) (hj : j < l.length) : needCs (l.drop j) = (needC l[j] || needCs (l.drop (j + 1))) := by
  rw [List.drop_eq_getElem_cons hj, needCs]
set_option maxHeartbeats 8000000 in
set_option maxRecDepth 20000 in
theorem test_need (n : Nat) (hIH : TestN n) : TestN (n + 1) := by
  intro t vs F w hrep hlen
  obtain ⟨m, Gn, cn, Gk, ck, Gt, ct, hm, rfl, -, -, ht⟩ := tst_open hrep
  obtain rfl : n = m := by omega
  obtain ⟨-, -, -, -, ltn⟩ := hlen.one
  have hsub := hlen.sub
  have heq := needT_eq t
  obtain ⟨R, hR⟩ : ∃ R, R = needT t := ⟨_, rfl⟩
  rw [← hR] at heq ⊢
  obtain ⟨kind, mat, part, ns, ks, ov, lim, ts⟩ := t
  simp only [tstC] at *
  have HX := Lib.hid (Has.alloc w [.int .i64 kind, .int .i64 mat, .int .i64 part, .slice Gn ns.length cn, .slice Gk ks.length ck, .bool ov, .int .i64 lim, .slice Gt ts.length ct] 26)
  have HB0 := Lib.hid (ba (Below.refl w.heap.size w) (.cells #[.int .i64 kind, .int .i64 mat, .int .i64 part, .slice Gn ns.length cn, .slice Gk ks.length ck, .bool ov, .int .i64 lim, .slice Gt ts.length ct] 26))
  have HT := Lib.hid ht; have HEQ := Lib.hid heq; have HSUB := Lib.hid hsub; have HIH := Lib.hid hIH
  clear hrep hlen ht heq hR hm hsub hIH
  go_enter Tryd.func38, Tryd.ntmps38
  go_wp2_with fail
  go_loopw [3] (fun v wr => ∃ j : Nat, v = .int .i64 j ∧ j ≤ ts.length ∧ Hid (needTs ts = needTs (ts.drop j)) ∧ Has wr w.heap.size [.int .i64 kind, .int .i64 mat, .int .i64 part, .slice Gn ns.length cn, .slice Gk ks.length ck, .bool ov, .int .i64 lim, .slice Gt ts.length ct] ∧ Below w.heap.size w wr) (fun v _ => ts.length - (intOf v).toNat)
  case atStart => exact ⟨0, rfl, Nat.zero_le _, rfl, HX.out, HB0.out⟩
  case round =>
    obtain ⟨j, rfl, hj, HD, hX, hb⟩ := hrel
    have HBJ := Lib.hid hb; have HXJ := Lib.hid hX
    obtain ⟨c0, c1, c2, c3, c4, c5, c6, c7⟩ := has_eight hX
    by_cases hlt : j < ts.length
    · obtain ⟨g, off, Gn', cn', Gk', ck', Gt', ct', rfl, hr, e0, e1, e2, e3, e4, e5, e6, e7⟩ := tst_get HT.out (Same.of_below hb) hb.size j hlt
      have hst := needTs_step ts j hlt
      have hls := HSUB.out _ (List.getElem_mem hlt)
      generalize ts[j] = x at hr e0 e1 e2 e3 e4 e5 e6 e7 hst hls
      have HC := Lib.hid (HIH.out x _ F wr hr hls)
      obtain ⟨q, hq⟩ : ∃ q, q = needT x := ⟨_, rfl⟩
      rw [← hq] at hst HC
      have HST := Lib.hid hst
      have hjn : (j : Int) < ts.length := by omega
      unfold tstC at HC
      clear hr hls hb hst hq hX
      go_wp2_with fail
      refine HC.out.mono ?_
      rintro e w3 ⟨rfl, hb3⟩
      have HB3 := Lib.hid (bt HBJ.out hb3); have HX3 := Lib.hid (HXJ.out.down hb3)
      clear hb3 HC e0 e1 e2 e3 e4 e5 e6 e7
      cases q with
      | true =>
        go_wp2_with fail
        go_ret
        exact ⟨ret_bool (by rw [HEQ.out, HD.out, HST.out]; rfl), HB3.out⟩
      | false =>
        go_wp2_with fail
        go_roundw
        case rel => exact ⟨j + 1, by go_num, hlt, by unfold Hid; rw [HD.out, HST.out]; rfl, HX3.out, HB3.out⟩
        case measure => simp [intOf]; omega
    · obtain rfl : j = ts.length := by omega
      have hz : Hid (R = (kind == 8)) := by unfold Hid; rw [HEQ.out, HD.out, List.drop_length, needTs, Bool.false_or]
      clear hb hX
      cases hk : (kind == (8 : Int)) with
      | true =>
        have HZ := Lib.hid (hz.out.trans hk)
        go_wp2_with fail
        go_ret
        exact ⟨ret_bool HZ.out.symm, HBJ.out⟩
      | false =>
        have HZ := Lib.hid (hz.out.trans hk)
        go_wp2_with fail
        go_ret
        exact ⟨ret_bool HZ.out.symm, HBJ.out⟩
theorem test_need_all : ∀ n, TestN n
  | 0 => fun _ _ _ _ h => h.elim
  | n + 1 => test_need n (test_need_all n)
def NeedsN (n : Nat) : Prop := ∀ (l : List Cmd) (v : Value) (F : Dom) (w : World), SAt (cCmd n) w F v l → (∀ c ∈ l, GoodC c) → l.length ≤ 1000000 →
    Calls Tryd.prog 22 #[v] w (BoolPost (needCs l) w)
set_option maxHeartbeats 8000000 in
set_option maxRecDepth 20000 in
theorem needs_rule (n : Nat) (hIH : ∀ k, n = k + 1 → NeedsN k) : NeedsN n := by
  intro l v F w hv hgood hlen
  obtain ⟨G, cap, rfl, -⟩ := hv.form
  obtain ⟨R, hR⟩ : ∃ R, R = needCs l := ⟨_, rfl⟩
  rw [← hR]
  have HR := Lib.hid hR; have HV := Lib.hid hv; have HG := Lib.hid hgood; have HIH := Lib.hid hIH
  clear hv hgood hIH hR
  go_enter Tryd.func22, Tryd.ntmps22
  go_wp2_with fail
  go_loopw [3] (fun v wr => ∃ j : Nat, v = .int .i64 j ∧ j ≤ l.length ∧ Hid (needCs l = needCs (l.drop j)) ∧ Below w.heap.size w wr) (fun v _ => l.length - (intOf v).toNat)
  case atStart => exact ⟨0, rfl, Nat.zero_le _, rfl, Below.refl _ _⟩
  case round =>
    obtain ⟨j, rfl, hj, HD, hb⟩ := hrel
    have HBJ := Lib.hid hb
    by_cases hlt : j < l.length
    · obtain ⟨g, off, Gx, cx, Gn, cn, Gk, ck, Gt, ct, Gh, ch, Ge, ce, rfl, hr, e0, e1, ⟨e2, e3, e4, e5, e6, e7, e8, e9⟩, e10, e11⟩ := cmd_get HV.out (Same.of_below hb) hb.size j hlt
      have hst := needCs_step l j hlt
      have hls := (GoodC.iff _).1 (HG.out _ (List.getElem_mem hlt))
      generalize l[j] = x at hr e0 e1 e2 e3 e4 e5 e6 e7 e8 e9 e10 e11 hst hls
      obtain ⟨⟨-, -, -, ⟨k1, k2⟩, l1, l2⟩, ltt, gth, gel⟩ := hls
      obtain ⟨q, Gx', cx', Gn', cn', Gk', ck', Gt', ct', Gh', ch', Ge', ce', hq, hve, -, htr, hth, hel⟩ := cmd_open hr
      subst hq
      have hve' := hve
      unfold cmdC tstC at hve'
      injection hve' with _ hve'
      injection hve' with _ hve'
      injection hve' with _ hve'
      injection hve' with _ hve'
      injection hve' with _ hve'
      injection hve' with i5 hve'
      injection hve' with i6 hve'
      injection hve' with _ hve'
      injection hve' with _ hve'
      injection hve' with i9 hve'
      injection hve' with i10 hve'
      injection hve' with i11 _
      rw [← i5, ← i6, ← i9] at htr
      rw [← i10] at hth
      rw [← i11] at hel
      have heq := needC_eq x
      have HT := Lib.hid (test_need_all (q + 1) x.test _ F wr htr ltt)
      have HA1 : Hid (∀ w', Below wr.heap.size wr w' → Calls Tryd.prog 22 #[.slice Gh x.thn.length ch] w' (BoolPost (needCs x.thn) w')) := fun w' hb' => HIH.out q rfl x.thn _ F w' (hth.down hb') gth l1
      have HA2 : Hid (∀ w', Below wr.heap.size wr w' → Calls Tryd.prog 22 #[.slice Ge x.els.length ce] w' (BoolPost (needCs x.els) w')) := fun w' hb' => HIH.out q rfl x.els _ F w' (hel.down hb') gel l2
      have HST := Lib.hid hst; have HEQ := Lib.hid heq
      unfold tstC at HT
      have hjn : (j : Int) < l.length := by omega
      have key : x.kind = 1 ∨ x.kind = 2 ∨ x.kind = 3 ∨ x.kind = 4 ∨ x.kind = 5 ∨ x.kind = 6 ∨ x.kind = 7 ∨ x.kind = 8 ∨ x.kind = 9 ∨ x.kind = 10 := by omega
      clear hr hst hb heq hve i5 i6 i9 i10 i11 htr hth hel ltt gth gel l1 l2 k1 k2
      obtain ⟨kk, hkk⟩ : ∃ kk, kk = x.kind := ⟨_, rfl⟩
      rw [← hkk] at e0 key HEQ
      clear hkk
      by_cases h2 : kk = 2
      · subst h2
        obtain ⟨q1, hq1⟩ : ∃ q1, q1 = needT x.test := ⟨_, rfl⟩
        obtain ⟨q2, hq2⟩ : ∃ q2, q2 = needCs x.thn := ⟨_, rfl⟩
        obtain ⟨q3, hq3⟩ : ∃ q3, q3 = needCs x.els := ⟨_, rfl⟩
        have he2 : needC x = (q1 || q2 || q3) := by rw [HEQ.out, hq1, hq2, hq3]; rfl
        rw [← hq1] at HT
        rw [← hq2] at HA1
        rw [← hq3] at HA2
        have HE2 := Lib.hid he2
        clear he2 hq1 hq2 hq3 HEQ key
        go_wp2_with fail
        refine HT.out.mono ?_
        rintro e w2 ⟨rfl, hb2⟩
        have HB2 := Lib.hid hb2; have HB20 := Lib.hid (bt HBJ.out hb2)
        have d10 := moved e10 hb2 (Nat.le_refl _)
        clear hb2 HT
        cases q1 with
        | true =>
          go_wp2_with fail
          go_ret
          exact ⟨ret_bool (by rw [HR.out, HD.out, HST.out, HE2.out]; rfl), HB20.out⟩
        | false =>
          go_wp2_with fail
          refine (HA1.out _ HB2.out).mono ?_
          rintro e w3 ⟨rfl, hb3⟩
          have HB3 := Lib.hid (bt HB2.out hb3); have HB30 := Lib.hid (bt HB20.out hb3)
          have d11 := moved e11 HB3.out (Nat.le_refl _)
          clear hb3 HA1
          cases q2 with
          | true =>
            go_wp2_with fail
            go_ret
            exact ⟨ret_bool (by rw [HR.out, HD.out, HST.out, HE2.out]; rfl), HB30.out⟩
          | false =>
            go_wp2_with fail
            refine (HA2.out _ HB3.out).mono ?_
            rintro e w4 ⟨rfl, hb4⟩
            have HB40 := Lib.hid (bt HB30.out hb4)
            clear hb4 HA2
            cases q3 with
            | true =>
              go_wp2_with fail
              go_ret
              exact ⟨ret_bool (by rw [HR.out, HD.out, HST.out, HE2.out]; rfl), HB40.out⟩
            | false =>
              go_wp2_with fail
              go_roundw
              case rel => exact ⟨j + 1, by go_num, hlt, by unfold Hid; rw [HD.out, HST.out, HE2.out]; rfl, HB40.out⟩
              case measure => simp [intOf]; omega
      · by_cases h5 : kk = 5 ∨ kk = 7 ∨ kk = 8 ∨ kk = 9
        · have hx : Hid (needC x = true) := by unfold Hid; rw [HEQ.out, if_pos h5]
          rcases h5 with rfl | rfl | rfl | rfl
          all_goals
            clear h2 key HEQ
            go_wp2_with fail
            go_ret
            exact ⟨ret_bool (by rw [HR.out, HD.out, HST.out, hx.out]; rfl), HBJ.out⟩
        · have hx : Hid (needC x = false) := by unfold Hid; rw [HEQ.out, if_neg h5, if_neg h2]
          have h6 : kk = 1 ∨ kk = 3 ∨ kk = 4 ∨ kk = 6 ∨ kk = 10 := by omega
          clear h2 h5 key HEQ
          rcases h6 with rfl | rfl | rfl | rfl | rfl
          all_goals
            go_wp2_with fail
            go_roundw
            case rel => exact ⟨j + 1, by go_num, hlt, by unfold Hid; rw [HD.out, HST.out, hx.out]; rfl, HBJ.out⟩
            case measure => simp [intOf]; omega
    · obtain rfl : j = l.length := by omega
      have hz : Hid (R = false) := by unfold Hid; rw [HR.out, HD.out, List.drop_length, needCs]
      clear hb
      go_wp2_with fail
      go_ret
      exact ⟨ret_bool hz.out.symm, HBJ.out⟩
theorem needs_all : ∀ n, NeedsN n
  | 0 => needs_rule 0 (fun k h => by omega)
  | n + 1 => needs_rule (n + 1) (fun k h => by
      obtain rfl : n = k := by omega
      exact needs_all n)
end Go.Proofs.YtobdokabelilmaaDoor.Sc
