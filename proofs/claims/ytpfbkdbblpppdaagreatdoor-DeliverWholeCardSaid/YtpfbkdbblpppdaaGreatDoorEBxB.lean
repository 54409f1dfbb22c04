/- On the way. -/
import Derived.Test.YtpfbkdbblpppdaaGreatDoorEBxA
import Derived.Deep.RegionLaw
import Derived.Deep.AppendLies
import Derived.Lib.SliceRun
import Derived.Laws.IdiomCopy
import Derived.StillTailTactics
set_option linter.unusedVariables false
set_option linter.unusedSimpArgs false
set_option maxHeartbeats 16000000
set_option maxRecDepth 20000
namespace Go.Proofs.YtpfbkdbblpppdaaGreatDoor
theorem MailsOK.next {n n' : Nat} (h : n ≤ n') : ∀ {l : List Mail} {last : Nat}, MailsOK n last l → MailsOK n' last l
 | [], _, _ => trivial
 | _ :: _, _, ⟨h1, h2, h3, h4, h5⟩ => ⟨h1, Nat.lt_of_lt_of_le h2 h, h3, h4, MailsOK.next h h5⟩
theorem MailsOK.last {n : Nat} : ∀ {l : List Mail} {a b : Nat}, a ≤ b → MailsOK n b l → MailsOK n a l
 | [], _, _, _, _ => trivial
 | _ :: _, _, _, h, ⟨h1, h2, h3, h4, h5⟩ => ⟨Nat.lt_of_le_of_lt h h1, h2, h3, h4, h5⟩
theorem MailsOK.snoc {n fl : Nat} {tx : List UInt8} (hfl : fl ≤ 31) (htx : tx.length ≤ 2000) : ∀ {l : List Mail} {last : Nat}, last < n → MailsOK n last l → MailsOK (n + 1) last (l ++ [⟨n, fl, tx⟩])
 | [], _, h, _ => ⟨h, Nat.lt_succ_self _, hfl, htx, trivial⟩
 | m :: l, last, _, ⟨h1, h2, h3, h4, h5⟩ => ⟨h1, Nat.lt_succ_of_lt h2, h3, h4, MailsOK.snoc hfl htx (l := l) (last := m.uid) h2 h5⟩
theorem MailsOK.filter {n : Nat} (p : Mail → Bool) : ∀ {l : List Mail} {last : Nat}, MailsOK n last l → MailsOK n last (l.filter p)
 | [], _, _ => trivial
 | m :: l, last, ⟨h1, h2, h3, h4, h5⟩ => by
  rw [List.filter_cons]
  split
  ·exact ⟨h1, h2, h3, h4, MailsOK.filter p h5⟩
  ·exact (MailsOK.filter p h5).last (Nat.le_of_lt h1)
theorem MailsOK.set {n fl : Nat} (hfl : fl ≤ 31) : ∀ {l : List Mail} {last k : Nat} {m : Mail}, l[k]? = some m → MailsOK n last l → MailsOK n last (l.set k ⟨m.uid, fl, m.text⟩)
 | [], _, _, _, h, _ => by simp at h
 | x :: l, last, 0, m, h, ⟨h1, h2, h3, h4, h5⟩ => by
  obtain rfl : x = m := by simpa using h
  exact ⟨h1, h2, hfl, h4, h5⟩
 | x :: l, last, k + 1, m, h, ⟨h1, h2, h3, h4, h5⟩ => ⟨h1, h2, h3, h4, MailsOK.set hfl (by simpa using h) h5⟩
theorem sumM_append (a b : List Mail) : sumM (a ++ b) = sumM a + sumM b := by unfold sumM; rw [List.map_append, List.sum_append]
theorem sumM_filter (p : Mail → Bool) : ∀ l : List Mail, sumM (l.filter p) ≤ sumM l
 | [] => Nat.le_refl _
 | m :: l => by
  have ih := sumM_filter p l
  have e : sumM (m :: l) = m.text.length + sumM l := rfl
  rw [List.filter_cons]
  split
  ·show m.text.length + sumM (l.filter p) ≤ _; omega
  ·omega
theorem sumM_set : ∀ (l : List Mail) (k fl : Nat) (m : Mail), l[k]? = some m → sumM (l.set k ⟨m.uid, fl, m.text⟩) = sumM l
 | [], _, _, _, h => by simp at h
 | x :: l, 0, fl, m, h => by
  obtain rfl : x = m := by simpa using h
  rfl
 | x :: l, k + 1, fl, m, h => by
  show x.text.length + sumM (l.set k _) = x.text.length + sumM l
  rw [sumM_set l k fl m (by simpa using h)]
theorem sumB_set : ∀ (l : List Bx) (i : Nat) (b b' : Bx), l[i]? = some b → sumB (l.set i b') + sumM b.mails = sumB l + sumM b'.mails
 | [], _, _, _, h => by simp at h
 | x :: l, 0, b, b', h => by
  obtain rfl : x = b := by simpa using h
  show sumM b'.mails + sumB l + sumM x.mails = sumM x.mails + sumB l + sumM b'.mails
  omega
 | x :: l, i + 1, b, b', h => by
  have ih := sumB_set l i b b' (by simpa using h)
  show sumM x.mails + sumB (l.set i b') + sumM b.mails = sumM x.mails + sumB l + sumM b'.mails
  omega
theorem names_set {l : List Bx} {i : Nat} {b b' : Bx} (h : l.Pairwise fun a b => a.name ≠ b.name) (hb : l[i]? = some b) (hn : b'.name = b.name) : (l.set i b').Pairwise fun a b => a.name ≠ b.name := by
 have key : (l.set i b').map Bx.name = l.map Bx.name := by
  rw [List.map_set, hn]
  obtain ⟨hi, hbi⟩ := List.getElem?_eq_some_iff.1 hb
  apply List.ext_getElem?
  intro k
  rw [List.getElem?_set]
  split
  ·rename_i e; subst e
   rw [if_pos (by rw [List.length_map]; exact hi), List.getElem?_map, hb]; rfl
  ·rfl
 have h1 : (l.map Bx.name).Pairwise (· ≠ ·) := List.pairwise_map.2 h
 rw [← key] at h1
 exact List.pairwise_map.1 h1
theorem GoodS.set {s : St} {i : Nat} {b b' : Bx} (h : GoodS s) (hb : s.boxes[i]? = some b) (hn : b'.name = b.name) (hok : BoxOK b') (hr : sumB s.boxes + sumM b'.mails ≤ 6000 + sumM b.mails) : GoodS ⟨s.boxes.set i b', s.spool⟩ where
 boxes := by show (s.boxes.set i b').length ≤ 5; rw [List.length_set]; exact h.boxes
 spool := h.spool
 ok := fun x hx => by
  rcases List.mem_or_eq_of_mem_set hx with hx | rfl
  ·exact h.ok x hx
  ·exact hok
 names := names_set h.names hb hn
 out := h.out
 room := by
  have := sumB_set s.boxes i b b' hb
  show sumB (s.boxes.set i b') ≤ 6000
  omega
theorem addS_good {s t : St} {i fl : Nat} {tx : List UInt8} (h : GoodS s) (hfl : fl ≤ 31) (htx : tx.length ≤ 2000) (ht : addS s i fl tx = some t) : GoodS t := by
 unfold addS at ht
 cases hb : s.boxes[i]? with
 | none => rw [hb] at ht; cases ht
 | some b =>
  rw [hb] at ht
  simp only at ht
  split at ht
  ·cases ht
  ·rename_i hc
   obtain rfl := Option.some.inj ht
   obtain ⟨b1, b2, b3, b4, b5⟩ := h.ok b (List.mem_of_getElem? hb)
   refine h.set hb rfl ⟨b1, by show 1 ≤ b.next + 1; omega, by show b.next + 1 ≤ _; omega, by show (b.mails ++ [_]).length ≤ 30; rw [List.length_append, List.length_singleton]; omega, MailsOK.snoc hfl htx (by omega) b5⟩ ?_
   show sumB s.boxes + sumM (b.mails ++ [_]) ≤ _
   rw [sumM_append]
   show sumB s.boxes + (sumM b.mails + (tx.length + 0)) ≤ _
   omega
theorem mail_bounds {n : Nat} : ∀ {l : List Mail} {last k : Nat} {m : Mail}, MailsOK n last l → l[k]? = some m → m.flags ≤ 31 ∧ m.text.length ≤ 2000
 | [], _, _, _, _, h => by simp at h
 | x :: l, _, 0, m, ⟨_, _, h3, h4, _⟩, h => by
  obtain rfl : x = m := by simpa using h
  exact ⟨h3, h4⟩
 | x :: l, _, k + 1, m, ⟨_, _, _, _, h5⟩, h => mail_bounds h5 (by simpa using h)
theorem form_parts {x : Ent} (h : formV x = 0) : 1 ≤ x.kind ∧ x.kind ≤ 6 ∧ x.flags ≤ 31 ∧ x.text.length ≤ 2000 ∧ (x.kind ≠ 6 → nameCode x.box = 0) := by
 unfold formV at h
 split at h
 ·cases h
 ·split at h
  ·cases h
  ·split at h
   ·cases h
   ·split at h
    ·cases h
    ·split at h
     ·exact ⟨by omega, by omega, by omega, by omega, fun e => absurd (by assumption) e⟩
     ·split at h
      ·exact absurd h (by assumption)
      ·rename_i hn
       exact ⟨by omega, by omega, by omega, by omega, fun _ => Classical.byContradiction hn⟩
theorem applyS_good {s : St} {x : Ent} (h : GoodS s) (hx : formV x = 0) : GoodS (applyS s x).1 := by
 obtain ⟨k1, k6, hfl, htx, hnm⟩ := form_parts hx
 unfold applyS
 split
 ·rename_i e6
  split
  ·exact h
  ·rename_i h20
   exact ⟨h.boxes, by show (s.spool ++ [x]).length ≤ 20; rw [List.length_append, List.length_singleton]; have := h.spool; omega, h.ok, h.names, (fun y hy => by
    rcases List.mem_append.1 hy with hy | hy
    ·exact h.out y hy
    ·obtain rfl := List.mem_singleton.1 hy; exact ⟨e6, hx⟩), h.room⟩
 ·rename_i e6
  split
  ·rename_i hf
   split
   ·split
    ·exact h
    ·refine ⟨by show (s.boxes ++ [_]).length ≤ 5; rw [List.length_append, List.length_singleton]; have := h.boxes; omega, h.spool, (fun b hb => ?_), ?_, h.out, ?_⟩
     ·rcases List.mem_append.1 hb with hb | hb
      ·exact h.ok b hb
      ·obtain rfl := List.mem_singleton.1 hb
       exact ⟨hnm e6, Nat.le_refl _, by show (1 : Nat) ≤ 1048577; omega, Nat.zero_le _, trivial⟩
     ·refine List.pairwise_append.2 ⟨h.names, List.pairwise_singleton _ _, fun a ha b hb => ?_⟩
      obtain rfl := List.mem_singleton.1 hb
      exact findB_none hf a ha
     ·show sumB (s.boxes ++ [_]) ≤ 6000
      have : sumB (s.boxes ++ [⟨x.box, 1, []⟩]) = sumB s.boxes := by unfold sumB; rw [List.map_append, List.sum_append]; simp [sumM]
      rw [this]; exact h.room
   ·exact h
  ·rename_i i hf
   split
   ·exact h
   ·split
    ·split
     ·rename_i t ht; exact addS_good h hfl htx ht
     ·exact h
    ·split
     ·exact h
     ·rename_i b hb
      obtain ⟨b1, b2, b3, b4, b5⟩ := h.ok b (List.mem_of_getElem? hb)
      have hroom := h.room
      split
      ·refine h.set hb rfl ⟨b1, b2, b3, Nat.le_trans (List.length_filter_le _ _) b4, b5.filter _⟩ ?_
       have := sumM_filter (fun m => m.flags &&& 8 == 0) b.mails
       show sumB s.boxes + sumM (b.mails.filter _) ≤ _
       omega
      ·split
       ·exact h
       ·rename_i k hk
        split
        ·exact h
        ·rename_i m hm
         split
         ·refine h.set hb rfl ⟨b1, b2, b3, by show (b.mails.set _ _).length ≤ 30; rw [List.length_set]; exact b4, MailsOK.set hfl hm b5⟩ ?_
          show sumB s.boxes + sumM (b.mails.set _ _) ≤ _
          rw [sumM_set _ _ _ _ hm]; omega
         ·split
          ·exact h
          ·rename_i j hj
           obtain ⟨mf, mt⟩ := mail_bounds b5 hm
           split
           ·rename_i t ht; exact addS_good h mf mt ht
           ·exact h
end Go.Proofs.YtpfbkdbblpppdaaGreatDoor
namespace Go.Proofs.YtpfbkdbblpppdaaGreatDoor
open Go.RowKit
def delB (m : Mail) : Bool := m.flags &&& 8 != 0
theorem bits8 : ∀ f : Fin 32, (bits .and .i64 ((f.val : Nat) : Int) 8 != 0) = (f.val &&& 8 != 0) := by decide +kernel
theorem delc_any (m : Mail) (w : World) (hf : m.flags ≤ 31) :
    Calls Tryz.prog 93 #[.agg #[.int .i64 m.uid, .int .i64 m.flags, .string ⟨m.text.toArray⟩]] w fun e w' => e = .returned (.bool (delB m)) ∧ Below w.heap.size w w' := by
 have hA := Lib.hid (ba (Below.refl w.heap.size w) (.cells #[.int .i64 m.uid, .int .i64 m.flags, .string ⟨m.text.toArray⟩] 133))
 have hb := Lib.hid (bits8 ⟨m.flags, by omega⟩)
 go_enter Tryz.func93, Tryz.ntmps93
 go_wp2_with fail
 go_ret
 exact ⟨congrArg (fun b => Ending.returned (.bool b)) hb.out, hA.out⟩
def uidB (u : Nat) (m : Mail) : Bool := m.uid == u
theorem uidc_any (m : Mail) (N u : Nat) (w : World) (hN : w.cell? ⟨N, 2, none⟩ = some (.int .i64 u)) :
    Calls Tryz.prog 95 #[.agg #[.int .i64 m.uid, .int .i64 m.flags, .string ⟨m.text.toArray⟩], .pointer (some ⟨N, 0, none⟩)] w fun e w' => e = .returned (.bool (uidB u m)) ∧ Below w.heap.size w w' := by
 have hNa := moved hN (ba (Below.refl w.heap.size w) (.cells #[.int .i64 m.uid, .int .i64 m.flags, .string ⟨m.text.toArray⟩] 133)) (Nat.le_refl _)
 have hA := Lib.hid (ba (Below.refl w.heap.size w) (.cells #[.int .i64 m.uid, .int .i64 m.flags, .string ⟨m.text.toArray⟩] 133))
 have hb : Hid (((m.uid : Int) == (u : Int)) = uidB u m) := by
  unfold Hid uidB
  rw [Bool.eq_iff_iff]; simp; omega
 go_enter Tryz.func95, Tryz.ntmps95
 go_wp2_with fail
 go_ret
 exact ⟨congrArg (fun b => Ending.returned (.bool b)) hb.out, hA.out⟩
theorem indexD_any (v : Value) (l : List Mail) (F : Dom) (w : World) (h : SAt cMail w F v l) (hl : l.length ≤ 1000) (hf : ∀ m ∈ l, m.flags ≤ 31) :
    Calls Tryz.prog 94 #[v, .func (.func 93) #[] #[]] w fun e w' => e = .returned (.int .i64 (idx (l.findIdx? delB))) ∧ Below w.heap.size w w' := by
 obtain ⟨G, cap, rfl, hcap⟩ := h.form
 have H := Lib.hid h; have HH := Lib.hid hf
 clear h hf
 go_enter Tryz.func94, Tryz.ntmps94
 go_wp2_with fail
 go_loopw [8] (fun i wr => ∃ j : Nat, j ≤ l.length ∧ i = .int .i64 j ∧ (∀ k (hk : k < l.length), k < j → delB l[k] = false) ∧ Below w.heap.size w wr) (fun i _ => l.length - (intOf i).toNat)
 case atStart => exact ⟨0, Nat.zero_le _, rfl, (fun k _ h => absurd h (Nat.not_lt_zero _)), Below.refl _ _⟩
 case round =>
  obtain ⟨j, hj, rfl, hno, hb⟩ := hrel
  have HNO := Lib.hid hno
  clear hno
  by_cases hlt : j < l.length
  ·obtain ⟨g, off, rfl, hF, hg, c0, c1, c2⟩ := mail_get H.out hb j hlt
   have hC := Lib.hid (delc_any l[j] wr (HH.out _ (List.getElem_mem _)))
   have hgr : g < wr.heap.size := Nat.lt_of_lt_of_le hg hb.size
   cases hp : delB l[j] with
   | true =>
    have hfi : Hid (idx (l.findIdx? delB) = (j : Int)) := by
     have : l.findIdx? delB = some j := by
      rw [List.findIdx?_eq_some_iff_getElem]
      exact ⟨hlt, hp, fun k hk => by rw [HNO.out k (by omega) hk]; decide⟩
     unfold Hid; rw [this]; rfl
    rw [hp] at hC
    clear HNO hp
    generalize l[j] = m at c0 c1 c2 hC
    go_wp2_with fail
    refine hC.out.mono ?_
    rintro e w1 ⟨rfl, hb1⟩
    have HB := Lib.hid (bt hb hb1)
    clear c0 c1 c2 hb1 hb
    go_wp2_with fail
    go_ret
    exact ⟨by rw [hfi.out]; rfl, HB.out⟩
   | false =>
    have hno2 : Hid (∀ k (hk : k < l.length), k < j + 1 → delB l[k] = false) := by
     intro k hk hkj
     rcases Nat.lt_succ_iff_lt_or_eq.1 hkj with h | h
     ·exact HNO.out k hk h
     ·subst h; exact hp
    rw [hp] at hC
    clear HNO hp
    generalize l[j] = m at c0 c1 c2 hC
    go_wp2_with fail
    refine hC.out.mono ?_
    rintro e w1 ⟨rfl, hb1⟩
    have HB := Lib.hid (bt hb hb1)
    clear c0 c1 c2 hb1 hb
    go_wp2_with fail
    go_roundw
    case rel => exact ⟨j + 1, hlt, by go_num, hno2.out, HB.out⟩
    case measure => simp [intOf]; omega
  ·obtain rfl : j = l.length := by omega
   have hfi : Hid (idx (l.findIdx? delB) = -1) := by
    have : l.findIdx? delB = none := by
     rw [List.findIdx?_eq_none_iff]
     intro b hb
     obtain ⟨k, hk, rfl⟩ := List.getElem_of_mem hb
     exact HNO.out k hk hk
    unfold Hid; rw [this]; rfl
   clear HNO
   go_wp2_with fail
   go_ret
   exact ⟨by rw [hfi.out]; rfl, hb⟩
theorem indexU_any (v : Value) (l : List Mail) (F : Dom) (N u : Nat) (w : World) (h : SAt cMail w F v l) (hl : l.length ≤ 1000) (hN : w.cell? ⟨N, 2, none⟩ = some (.int .i64 u)) :
    Calls Tryz.prog 94 #[v, .func (.func 95) #[] #[.pointer (some ⟨N, 0, none⟩)]] w fun e w' => e = .returned (.int .i64 (idx (l.findIdx? (uidB u)))) ∧ Below w.heap.size w w' := by
 obtain ⟨G, cap, rfl, hcap⟩ := h.form
 have H := Lib.hid h; have HH := Lib.hid hN
 clear h hN
 go_enter Tryz.func94, Tryz.ntmps94
 go_wp2_with fail
 go_loopw [8] (fun i wr => ∃ j : Nat, j ≤ l.length ∧ i = .int .i64 j ∧ (∀ k (hk : k < l.length), k < j → (uidB u) l[k] = false) ∧ Below w.heap.size w wr) (fun i _ => l.length - (intOf i).toNat)
 case atStart => exact ⟨0, Nat.zero_le _, rfl, (fun k _ h => absurd h (Nat.not_lt_zero _)), Below.refl _ _⟩
 case round =>
  obtain ⟨j, hj, rfl, hno, hb⟩ := hrel
  have HNO := Lib.hid hno
  clear hno
  by_cases hlt : j < l.length
  ·obtain ⟨g, off, rfl, hF, hg, c0, c1, c2⟩ := mail_get H.out hb j hlt
   have hC := Lib.hid (uidc_any l[j] N u wr (moved HH.out hb (Nat.le_refl _)))
   have hgr : g < wr.heap.size := Nat.lt_of_lt_of_le hg hb.size
   cases hp : (uidB u) l[j] with
   | true =>
    have hfi : Hid (idx (l.findIdx? (uidB u)) = (j : Int)) := by
     have : l.findIdx? (uidB u) = some j := by
      rw [List.findIdx?_eq_some_iff_getElem]
      exact ⟨hlt, hp, fun k hk => by rw [HNO.out k (by omega) hk]; decide⟩
     unfold Hid; rw [this]; rfl
    rw [hp] at hC
    clear HNO hp
    generalize l[j] = m at c0 c1 c2 hC
    go_wp2_with fail
    refine hC.out.mono ?_
    rintro e w1 ⟨rfl, hb1⟩
    have HB := Lib.hid (bt hb hb1)
    clear c0 c1 c2 hb1 hb
    go_wp2_with fail
    go_ret
    exact ⟨by rw [hfi.out]; rfl, HB.out⟩
   | false =>
    have hno2 : Hid (∀ k (hk : k < l.length), k < j + 1 → (uidB u) l[k] = false) := by
     intro k hk hkj
     rcases Nat.lt_succ_iff_lt_or_eq.1 hkj with h | h
     ·exact HNO.out k hk h
     ·subst h; exact hp
    rw [hp] at hC
    clear HNO hp
    generalize l[j] = m at c0 c1 c2 hC
    go_wp2_with fail
    refine hC.out.mono ?_
    rintro e w1 ⟨rfl, hb1⟩
    have HB := Lib.hid (bt hb hb1)
    clear c0 c1 c2 hb1 hb
    go_wp2_with fail
    go_roundw
    case rel => exact ⟨j + 1, hlt, by go_num, hno2.out, HB.out⟩
    case measure => simp [intOf]; omega
  ·obtain rfl : j = l.length := by omega
   have hfi : Hid (idx (l.findIdx? (uidB u)) = -1) := by
    have : l.findIdx? (uidB u) = none := by
     rw [List.findIdx?_eq_none_iff]
     intro b hb
     obtain ⟨k, hk, rfl⟩ := List.getElem_of_mem hb
     exact HNO.out k hk hk
    unfold Hid; rw [this]; rfl
   clear HNO
   go_wp2_with fail
   go_ret
   exact ⟨by rw [hfi.out]; rfl, hb⟩
theorem bxcells_set : ∀ (qs : List BQ) (i : Nat) (q : BQ) (b' : Bx) (v : Value), qs[i]? = some q → b'.name = q.1.name → ((bxcells qs).set (i * 3 + 2) v).set (i * 3 + 1) (.int .i64 b'.next) = bxcells (qs.set i (b', v))
 | [], i, q, b', v, h, _ => by simp at h
 | a :: l, 0, q, b', v, h, hn => by
  obtain rfl : a = q := by simpa using h
  show ([.string ⟨a.1.name.toArray⟩, .int .i64 b'.next, v] : List Value) ++ bxcells l = bxC (b', v) ++ bxcells l
  unfold bxC; rw [hn]
 | a :: l, i + 1, q, b', v, h, hn => by
  have ih := bxcells_set l i q b' v (by simpa using h) hn
  show ((bxC a ++ bxcells l).set ((i + 1) * 3 + 2) v).set ((i + 1) * 3 + 1) (.int .i64 b'.next) = bxC a ++ bxcells (l.set i (b', v))
  rw [← ih, List.set_append_right _ _ (by show 3 ≤ _; omega), List.set_append_right _ _ (by show 3 ≤ _; omega)]
  congr 2
  ·congr 1
   show (i + 1) * 3 + 2 - 3 = _; omega
  ·show (i + 1) * 3 + 1 - 3 = _; omega
theorem rows_set (qs : List BQ) (i : Nat) (vB vS v : Value) (sp : List Ent) (b' : Bx) : ((rowsOf qs vB vS sp).set (i + 2) (rowM (b', v))).set 0 (rowB vB (qs.set i (b', v))) = rowsOf (qs.set i (b', v)) vB vS sp := by
 unfold rowsOf; simp [List.map_set]
theorem rows_mail {w w' : World} {base i g cap : Nat} {qs : List BQ} {vS v5 : Value} {sp : List Ent} {q : BQ} {b' : Bx} (h : Rows w base (rowsOf qs (.slice (some ⟨g, 0, none⟩) qs.length cap) vS sp)) (hq : qs[i]? = some q) (hgrow : w.grownBy w' q.2.ownBlock)
    (h' : (rowM (b', v5)).At w' base) (hv : v5.ownBlock = q.2.ownBlock ∨ v5.ownBlock = none ∨ ∃ H, v5.ownBlock = some H ∧ w.heap.size ≤ H) (hname : b'.name = q.1.name) :
    Rows ((w'.setCell ⟨g, i * 3 + 2, none⟩ v5).setCell ⟨g, i * 3 + 1, none⟩ (.int .i64 b'.next)) base (rowsOf (qs.set i (b', v5)) (.slice (some ⟨g, 0, none⟩) (qs.set i (b', v5)).length cap) vS sp) := by
 have h1 := h.put (i := i + 2) (r := rowM q) (r' := rowM (b', v5)) (by show (qs.map rowM)[i]? = _; rw [List.getElem?_map, hq]; rfl) hgrow h' hv
 have hB : (rowB (.slice (some ⟨g, 0, none⟩) qs.length cap) qs).At w' base := h1.1 _ (by unfold rowsOf; rw [List.set_cons_succ]; exact List.mem_cons_self ..)
 obtain ⟨s1, g1⟩ := World.ownsRow.stored hB (i * 3 + 2) v5
 obtain ⟨s2, g2⟩ := World.ownsRow.stored s1 (i * 3 + 1) (.int .i64 b'.next)
 rw [show (rowB (.slice (some ⟨g, 0, none⟩) qs.length cap) qs).cells = bxcells qs from rfl, bxcells_set qs i q b' v5 hq hname] at s2
 have h2 := h1.put (i := 0) (r := rowB (.slice (some ⟨g, 0, none⟩) qs.length cap) qs) (r' := rowB (.slice (some ⟨g, 0, none⟩) (qs.set i (b', v5)).length cap) (qs.set i (b', v5))) rfl (Go.Lib.grownBy_trans g1 g2)
  (by show World.ownsRow _ base 119 3 (.slice (some ⟨g, 0, none⟩) (qs.set i (b', v5)).length cap) (qs.set i (b', v5)).length _; rw [List.length_set]; exact s2) (.inl rfl)
 have e := rows_set qs i (.slice (some ⟨g, 0, none⟩) qs.length cap) vS v5 sp b'
 rw [List.length_set] at h2 ⊢
 rw [e] at h2
 exact h2
def AddPost (s : St) (i fl : Nat) (tx : List UInt8) (base R : Nat) (w : World) (e : Ending) (w' : World) : Prop :=
 (match addS s i fl tx with | none => e = .returned (.int .i64 5) ∧ OwnS w' base R s | some t => e = .returned (.int .i64 0) ∧ OwnS w' base R t) ∧ Below base w w'
theorem OwnS.down {w w' : World} {base R : Nat} {s : St} (h : OwnS w base R s) (hb : Below w.heap.size w w') : OwnS w' base R s := by
 obtain ⟨qs, vB, vS, h1, h2, h3, h4, h5⟩ := h
 exact ⟨qs, vB, vS, h1, h2.down hb, h3, h4.down hb, h5⟩
theorem OwnS.size {w : World} {base R : Nat} {s : St} (h : OwnS w base R s) : base ≤ w.heap.size := by
 obtain ⟨qs, vB, vS, h1, h2, h3, _⟩ := h
 have := h2.2.2; omega
theorem add_done {w w1 w5 : World} {base R i g cap g5 cap5 fl cm : Nat} {Gm : Option Addr} {qs : List BQ} {vS : Value} {s : St} {b : Bx} {tx : List UInt8} {o : Obj}
    (hrows : Rows w base (rowsOf qs (.slice (some ⟨g, 0, none⟩) qs.length cap) vS s.spool)) (hoff : OffR (rowsOf qs (.slice (some ⟨g, 0, none⟩) qs.length cap) vS s.spool) R) (hH : Has w R [.slice (some ⟨g, 0, none⟩) qs.length cap, vS])
    (hq : qs[i]? = some (b, .slice Gm b.mails.length cm)) (hbx : s.boxes = qs.map Prod.fst) (hbs : base ≤ w.heap.size) (hR : base ≤ R) (hgb : base ≤ g) (hD : Below w.heap.size w w1)
    (hrw : World.ownsRow (w1.drew.alloc o) base 133 3 (.slice Gm b.mails.length cm) b.mails.length (b.mails.flatMap mailC))
    (hgrow : (w1.drew.alloc o).grownBy w5 (Value.slice Gm b.mails.length cm).ownBlock)
    (hown5 : w5.ownsRow base 133 3 (.slice (some ⟨g5, 0, none⟩) (b.mails.length + 1) cap5) (b.mails.length + 1) (b.mails.flatMap mailC ++ [.int .i64 b.next, .int .i64 fl, .string ⟨tx.toArray⟩]))
    (hat : (Value.slice Gm b.mails.length cm).ownBlock = some g5 ∨ g5 = (w1.drew.alloc o).heap.size) (_hga : some g ≠ (Value.slice Gm b.mails.length cm).ownBlock) :
    (Ending.returned (.int .i64 0) = .returned (.int .i64 0) ∧ OwnS ((w5.setCell ⟨g, i * 3 + 2, none⟩ (.slice (some ⟨g5, 0, none⟩) (b.mails.length + 1) cap5)).setCell ⟨g, i * 3 + 1, none⟩ (.int .i64 ((b.next : Int) + 1))) base R ⟨s.boxes.set i ⟨b.name, b.next + 1, b.mails ++ [(⟨b.next, fl, tx⟩ : Mail)]⟩, s.spool⟩) ∧
     Below base w ((w5.setCell ⟨g, i * 3 + 2, none⟩ (.slice (some ⟨g5, 0, none⟩) (b.mails.length + 1) cap5)).setCell ⟨g, i * 3 + 1, none⟩ (.int .i64 ((b.next : Int) + 1))) := by
 have hda := ba (Below.drew (Below.refl w1.heap.size w1)) o
 have hb0 := bt hD hda
 have hrows' := hrows.down hb0
 have hH' := hH.down hb0
 have hz := hD.size
 have hRu : some R ≠ (Value.slice Gm b.mails.length cm).ownBlock := fun e => hoff (rowM (b, .slice Gm b.mails.length cm)) (List.mem_cons_of_mem _ (List.mem_cons_of_mem _ (List.mem_map_of_mem (List.mem_of_getElem? hq)))) e.symm
 have hRg : R ≠ g := fun e => hoff _ (List.mem_cons_self ..) (by rw [e]; rfl)
 have hrow5 : (rowM ((⟨b.name, b.next + 1, b.mails ++ [(⟨b.next, fl, tx⟩ : Mail)]⟩ : Bx), .slice (some ⟨g5, 0, none⟩) (b.mails.length + 1) cap5)).At w5 base := by
  show w5.ownsRow base 133 3 _ (b.mails ++ [(⟨b.next, fl, tx⟩ : Mail)]).length ((b.mails ++ [(⟨b.next, fl, tx⟩ : Mail)]).flatMap mailC)
  rw [List.length_append, List.flatMap_append]
  exact hown5
 have hv : (Value.slice (some ⟨g5, 0, none⟩) (b.mails.length + 1) cap5).ownBlock = (Value.slice Gm b.mails.length cm).ownBlock ∨ (Value.slice (some ⟨g5, 0, none⟩) (b.mails.length + 1) cap5).ownBlock = none ∨ ∃ H, (Value.slice (some ⟨g5, 0, none⟩) (b.mails.length + 1) cap5).ownBlock = some H ∧ (w1.drew.alloc o).heap.size ≤ H := by
  rcases hat with e | e
  ·exact .inl e.symm
  ·exact .inr (.inr ⟨g5, rfl, by omega⟩)
 have hfin := rows_mail (b' := ⟨b.name, b.next + 1, b.mails ++ [(⟨b.next, fl, tx⟩ : Mail)]⟩) hrows' hq hgrow hrow5 hv rfl
 refine ⟨⟨rfl, qs.set i ((⟨b.name, b.next + 1, b.mails ++ [(⟨b.next, fl, tx⟩ : Mail)]⟩ : Bx), .slice (some ⟨g5, 0, none⟩) (b.mails.length + 1) cap5), .slice (some ⟨g, 0, none⟩) (qs.set i ((⟨b.name, b.next + 1, b.mails ++ [(⟨b.next, fl, tx⟩ : Mail)]⟩ : Bx), .slice (some ⟨g5, 0, none⟩) (b.mails.length + 1) cap5)).length cap, vS, ?_, ?_, hR, hfin, ?_⟩, ?_⟩
 ·show s.boxes.set i _ = _
  rw [List.map_set, hbx]
 ·rw [List.length_set]
  exact ((hH'.kept hgrow hRu).else' hRg _).else' hRg _
 ·rw [← rows_set]
  refine offR_put (offR_put ?_ (fun e => ?_)) (fun e => hRg (Option.some.inj e).symm)
  ·rw [List.length_set]; exact hoff
  ·obtain rfl : g5 = R := Option.some.inj e
   rcases hat with e | e
   ·exact hRu e.symm
   ·have := hH'.2.2; omega
 ·have h1 := below_row (hb0.mono hbs) hbs hrw (Nat.le_refl _) hgrow
  exact (h1.setCell (p := ⟨g, i * 3 + 2, none⟩) hgb _).setCell (p := ⟨g, i * 3 + 1, none⟩) hgb _
theorem add_any (s : St) (i fl : Nat) (tx : List UInt8) (base R : Nat) (w : World) (h : OwnS w base R s) (hg : GoodS s) (hi : i < s.boxes.length) (_hfl : fl ≤ 31) (htx : tx.length ≤ 2000) :
    Calls Tryz.prog 91 #[.pointer (some ⟨R, 0, none⟩), .int .i64 i, .int .i64 fl, .string ⟨tx.toArray⟩] w (AddPost s i fl tx base R w) := by
 obtain ⟨i0, hi0, hz0, hz1, hz2⟩ := info_parts infoMail
 have HI := Lib.hid hi0; have HZ0 := Lib.hid hz0; have HZ1 := Lib.hid hz1; have HZ2 := Lib.hid hz2
 clear hi0 hz0 hz1 hz2
 have hbs := h.size
 have h0 := h
 obtain ⟨qs, vB, vS, hbx, hH, hR, hrows, hoff⟩ := h
 have hql : qs.length = s.boxes.length := by rw [hbx, List.length_map]
 have hlt : i < qs.length := by omega
 obtain ⟨q, hq⟩ : ∃ q, qs[i]? = some q := ⟨_, List.getElem?_eq_getElem hlt⟩
 have hbi : s.boxes[i]? = some q.1 := by rw [hbx, List.getElem?_map, hq]; rfl
 have hsat : SAt cBox w (fun b => base ≤ b) vB s.boxes := by rw [hbx]; exact hrows.boxes (fun b h => h)
 obtain ⟨b, u⟩ := q
 have hbok := hg.ok b (List.mem_of_getElem? hbi)
 obtain ⟨_, hn1, hn2, hml, _⟩ := hbok
 obtain ⟨g, cap, hvB, hgb, hgw⟩ := World.ownsRow.form (hrows.1 _ (List.mem_cons_self ..)) (show 0 < (rowB vB qs).n by show 0 < qs.length; omega)
 obtain rfl : vB = .slice (some ⟨g, 0, none⟩) qs.length cap := hvB
 obtain ⟨Gm, cm, rfl⟩ : ∃ G c, u = .slice G b.mails.length c := row_form (hrows.1 (rowM (b, u)) (List.mem_cons_of_mem _ (List.mem_cons_of_mem _ (List.mem_map_of_mem (List.mem_of_getElem? hq)))))
 obtain ⟨Gs, cs, rfl⟩ : ∃ G c, vS = .slice G s.spool.length c := row_form (hrows.1 (rowS vS s.spool) (List.mem_cons_of_mem _ (List.mem_cons_self ..)))
 have hown := hrows.1 _ (List.mem_cons_self ..)
 have hcell : ∀ j, j < 3 → w.cell? ⟨g, i * 3 + j, none⟩ = (bxC (b, .slice Gm b.mails.length cm))[j]? := fun j hj => (World.ownsRow.cellAt hown (i * 3 + j) (by show i * 3 + j < qs.length * 3; omega)).trans (bxcells_at qs i j _ hq hj)
 have x1 : w.cell? ⟨g, i * 3 + 1, none⟩ = some (.int .i64 b.next) := hcell 1 (by omega)
 have x2 : w.cell? ⟨g, i * 3 + 2, none⟩ = some (.slice Gm b.mails.length cm) := hcell 2 (by omega)
 have xf1 : w.frozen? ⟨g, i * 3 + 1, none⟩ = false := World.ownsRow.frozenAt hown (i * 3 + 1)
 have xf2 : w.frozen? ⟨g, i * 3 + 2, none⟩ = false := World.ownsRow.frozenAt hown (i * 3 + 2)
 obtain ⟨r0, r1, -, -⟩ := hH.two
 have H0 := Lib.hid h0; have HROWS := Lib.hid hrows; have HOFF := Lib.hid hoff; have HH := Lib.hid hH; have HSAT := Lib.hid hsat; have HQ := Lib.hid hq; have HBI := Lib.hid hbi; have HBX := Lib.hid hbx
 have hqc : qs.length ≤ 1000 := by have := hg.boxes; omega
 have HROOM := Lib.hid hg.room
 have HQL := Lib.hid hql
 have HMLS : Hid (∀ b ∈ s.boxes, b.mails.length ≤ 1000) := fun b hb => by have := (hg.ok b hb).2.2.2.1; omega
 have hbl := Lib.hid hg.boxes
 have hz : Hid (∀ w', Below w.heap.size w w' → Calls Tryz.prog 85 #[.agg #[.slice (some ⟨g, 0, none⟩) qs.length cap, .slice Gs s.spool.length cs]] w' fun e w'' => e = .returned (.int .i64 (sumB s.boxes)) ∧ Below w'.heap.size w' w'') :=
  fun w' hb => bsize_any _ Gs s.spool.length cs s.boxes _ w' (HSAT.out.down hb) (by have := hbl.out; omega) HMLS.out (by have := HROOM.out; omega)
 clear h0 hrows hoff hH hsat hq hbi hbx hcell hown hg hql
 by_cases c1 : b.mails.length = 30
 ·have hadd : Hid (addS s i fl tx = none) := by unfold Hid addS; rw [HBI.out]; simp only; rw [if_pos (.inl c1)]
  have q1 : ((b.mails.length : Int) == 30) = true := by simp; omega
  clear c1
  go_enter Tryz.func91, Tryz.ntmps91
  go_wp2_with fail
  go_ret
  unfold AddPost
  rw [hadd.out]
  exact ⟨⟨rfl, H0.out⟩, Below.refl _ _⟩
 have q1 : ((b.mails.length : Int) == 30) = false := by simp; omega
 by_cases c2 : 1048576 < b.next
 ·have hadd : Hid (addS s i fl tx = none) := by unfold Hid addS; rw [HBI.out]; simp only; rw [if_pos (.inr (.inl c2))]
  have q2 : decide ((1048576 : Int) < b.next) = true := decide_eq_true (by omega)
  clear c1
  go_enter Tryz.func91, Tryz.ntmps91
  go_wp2_with fail
  go_ret
  unfold AddPost
  rw [hadd.out]
  exact ⟨⟨rfl, H0.out⟩, Below.refl _ _⟩
 have q2 : decide ((1048576 : Int) < b.next) = false := decide_eq_false (by omega)
 obtain ⟨S, hS⟩ : ∃ S, S = sumB s.boxes := ⟨_, rfl⟩
 rw [← hS] at hz
 have hS6 : S ≤ 6000 := by rw [hS]; exact HROOM.out
 by_cases c3 : 6000 < S + tx.length
 ·have hadd : Hid (addS s i fl tx = none) := by unfold Hid addS; rw [HBI.out]; simp only; rw [if_pos (.inr (.inr (by omega)))]
  have q3 : decide ((6000 : Int) < (S : Int) + tx.length) = true := decide_eq_true (by omega)
  clear c1 hS
  go_enter Tryz.func91, Tryz.ntmps91
  go_wp2_with fail
  refine (hz.out _ (Below.refl _ _)).mono ?_
  rintro e w1 ⟨rfl, hb1⟩
  have HD := Lib.hid hb1
  clear hb1
  go_wp2_with fail
  go_ret
  unfold AddPost
  rw [hadd.out]
  exact ⟨⟨rfl, H0.out.down HD.out⟩, HD.out.mono hbs⟩
 have hadd : Hid (addS s i fl tx = some ⟨s.boxes.set i ⟨b.name, b.next + 1, b.mails ++ [(⟨b.next, fl, tx⟩ : Mail)]⟩, s.spool⟩) := by
  unfold Hid addS; rw [HBI.out]; simp only; rw [if_neg (by omega)]
 have q3 : decide ((6000 : Int) < (S : Int) + tx.length) = false := decide_eq_false (by omega)
 clear hS
 go_enter Tryz.func91, Tryz.ntmps91
 go_wp2_with fail
 refine (hz.out _ (Below.refl _ _)).mono ?_
 rintro e w1 ⟨rfl, hb1⟩
 have y1 := moved x1 hb1 (Nat.le_refl _); have y2 := moved x2 hb1 (Nat.le_refl _)
 have yf1 : w1.frozen? ⟨g, i * 3 + 1, none⟩ = false := (hb1.frozen (p := ⟨g, i * 3 + 1, none⟩) hgw).trans xf1
 have yf2 : w1.frozen? ⟨g, i * 3 + 2, none⟩ = false := (hb1.frozen (p := ⟨g, i * 3 + 2, none⟩) hgw).trans xf2
 have HD := Lib.hid hb1
 clear hb1 x1 x2 xf1 xf2
 have hrowq : (rowM (b, .slice Gm b.mails.length cm)).At w base := HROWS.out.1 _ (List.mem_cons_of_mem _ (List.mem_cons_of_mem _ (List.mem_map_of_mem (List.mem_of_getElem? HQ.out))))
 have hga : some g ≠ (Value.slice Gm b.mails.length cm).ownBlock := by
  rcases HROWS.out.2 0 (i + 2) _ (rowM (b, .slice Gm b.mails.length cm)) rfl (by show (qs.map rowM)[i]? = _; rw [List.getElem?_map, HQ.out]; rfl) (by omega) with h | h
  ·cases h
  ·exact h
 have hrw1 := row_down hrowq HD.out
 have HRW : Hid (World.ownsRow (w1.drew.alloc (.cells #[.int .i64 b.next, .int .i64 fl, .string ⟨tx.toArray⟩] 133)) base 133 3 (.slice Gm b.mails.length cm) b.mails.length (b.mails.flatMap mailC)) := (row_down hrw1 (Below.drew (Below.refl w1.heap.size w1))).alloc _
 have hw1 := HD.out.size
 have hdr := Below.drew (Below.refl w1.heap.size w1)
 have hA := ba hdr (.cells #[.int .i64 b.next, .int .i64 fl, .string ⟨tx.toArray⟩] 133)
 have v1 := moved y1 hA (Nat.le_refl _); have v2 := moved y2 hA (Nat.le_refl _)
 have vf1 : (w1.drew.alloc (.cells #[.int .i64 b.next, .int .i64 fl, .string ⟨tx.toArray⟩] 133)).frozen? ⟨g, i * 3 + 1, none⟩ = false := (hA.frozen (p := ⟨g, i * 3 + 1, none⟩) (by show g < w1.heap.size; omega)).trans yf1
 have vf2 : (w1.drew.alloc (.cells #[.int .i64 b.next, .int .i64 fl, .string ⟨tx.toArray⟩] 133)).frozen? ⟨g, i * 3 + 2, none⟩ = false := (hA.frozen (p := ⟨g, i * 3 + 2, none⟩) (by show g < w1.heap.size; omega)).trans yf2
 have HV := Lib.hid (And.intro v1 (And.intro v2 (And.intro vf1 vf2))); have HA := Lib.hid hA
 clear v1 v2 vf1 vf2 hA hrowq hrw1 hdr yf1 yf2
 have n2 := moved y2 (ba (Below.refl w1.heap.size w1) (.cells #[.int .i64 b.next, .int .i64 fl, .string ⟨tx.toArray⟩] 133)) (Nat.le_refl _)
 go_wp2_with fail
 go_region_law (first
  | (refine step_append_lies _ (by rfl) _ _ _ (by rfl) base 133 i0 _ 3 32 Tryz.underlying117 HI.out HZ0.out HZ1.out HZ2.out rfl (by omega) (.slice Gm b.mails.length cm) b.mails.length (b.mails.flatMap mailC) (by rfl) HRW.out
      ⟨w1.heap.size, 0, none⟩ 1 1 [.int .i64 b.next, .int .i64 fl, .string ⟨tx.toArray⟩] (by rfl) (by rfl) (World.news_of_block (cs := #[.int .i64 b.next, .int .i64 fl, .string ⟨tx.toArray⟩]) (t := 133) (fr := (0, 0)) (heap_alloc_new w1 _)) (by simp [Value.oneCell'])
      (by omega) (by unfold maxLen; omega) (by omega) (by simp; omega) (w1.heap.size + 1) (by simp) ?_
     intro g5 cap5 w5 hown5 hgrow5 hat5 hlt5
     have z2 := (hgrow5.cell_far ⟨g, i * 3 + 2, none⟩ (by simp; omega) hga).trans HV.out.2.1
     have zf2 := (hgrow5.frozen_far ⟨g, i * 3 + 2, none⟩ (by simp; omega) hga).trans HV.out.2.2.2
     have z1 := (hgrow5.cell_far ⟨g, i * 3 + 1, none⟩ (by simp; omega) hga).trans HV.out.1
     have zf1 := (hgrow5.frozen_far ⟨g, i * 3 + 1, none⟩ (by simp; omega) hga).trans HV.out.2.2.1))
 all_goals
  have HO5 := Lib.hid hown5; have HG5 := Lib.hid hgrow5; have HAT := Lib.hid hat5
  clear hown5 hgrow5 hat5
  go_wp2_with fail
  go_ret
  unfold AddPost
  rw [hadd.out]
  refine add_done HROWS.out HOFF.out HH.out HQ.out HBX.out hbs hR hgb HD.out HRW.out HG5.out HO5.out (by
   rcases HAT.out with e | e
   ·exact .inl e
   ·exact .inr (by rw [e]; simp)) hga
theorem row_cut {w : World} {base e size g n cap a : Nat} {xs : List Value} (h : w.ownsRow base e size (.slice (some ⟨g, 0, none⟩) n cap) n xs) (ha : a ≤ n) : w.ownsRow base e size (.slice (some ⟨g, 0, none⟩) a cap) a (xs.take (a * size)) := by
 have hm : a * size ≤ n * size := Nat.mul_le_mul_right _ ha
 refine ⟨by rw [List.length_take, h.1]; omega, ?_⟩
 rcases h.2 with ⟨h1, _⟩ | ⟨g', cap', cur, h1, h2, h3, h4, h5, h6, h7⟩
 ·cases h1
 ·cases h1
  refine .inr ⟨g, cap, cur, rfl, h2, h3, by omega, h5, h6, ?_⟩
  rw [← h7, List.take_take, Nat.min_eq_left hm]
theorem row_setCells {base e size g cap a : Nat} {xs : List Value} : ∀ (Z : List Value) (o : Nat) (w : World), w.ownsRow base e size (.slice (some ⟨g, 0, none⟩) a cap) a xs → a * size ≤ o → (w.setCells g o Z).ownsRow base e size (.slice (some ⟨g, 0, none⟩) a cap) a xs ∧ w.grownBy (w.setCells g o Z) (some g)
 | [], o, w, h, _ => ⟨h, World.grownBy.refl w _⟩
 | z :: Z, o, w, h, ho => by
  obtain ⟨s1, g1⟩ := World.ownsRow.stored h o z
  rw [List.set_eq_of_length_le (by rw [h.1]; exact ho)] at s1
  obtain ⟨s2, g2⟩ := row_setCells Z (o + 1) _ s1 (by omega)
  exact ⟨s2, Go.Lib.grownBy_trans g1 g2⟩
theorem mcells_at (l : List Mail) (i j : Nat) (m : Mail) (hm : l[i]? = some m) (hj : j < 3) : (l.flatMap mailC)[i * 3 + j]? = (mailC m)[j]? := by
 have he : hcells (l.map fun x => (x, mailC x)) = l.flatMap mailC := by unfold hcells; rw [List.flatMap_map]
 have := hcells_at (k := 3) (ps := l.map fun x => (x, mailC x)) (fun p hp => by obtain ⟨x, _, rfl⟩ := List.mem_map.1 hp; rfl) i j (m, mailC m) (by rw [List.getElem?_map, hm]; rfl) hj
 rwa [he] at this
theorem mail_own {w : World} {base g cap n : Nat} {L : List Mail} (h : w.ownsRow base 133 3 (.slice (some ⟨g, 0, none⟩) n cap) n (L.flatMap mailC)) (i : Nat) (m : Mail) (hm : L[i]? = some m) (hi : i < n) :
    w.cell? ⟨g, i * 3, none⟩ = some (.int .i64 m.uid) ∧ w.cell? ⟨g, i * 3 + 1, none⟩ = some (.int .i64 m.flags) ∧ w.cell? ⟨g, i * 3 + 2, none⟩ = some (.string ⟨m.text.toArray⟩) :=
 ⟨(h.cellAt (i * 3 + 0) (by omega)).trans (mcells_at L i 0 m hm (by omega)), (h.cellAt (i * 3 + 1) (by omega)).trans (mcells_at L i 1 m hm (by omega)), (h.cellAt (i * 3 + 2) (by omega)).trans (mcells_at L i 2 m hm (by omega))⟩
def keep (m : Mail) : Bool := !delB m
theorem mcells_len (l : List Mail) : (l.flatMap mailC).length = l.length * 3 := by
 have := hcells_length (k := 3) (ps := l.map fun x => (x, mailC x)) (fun p hp => by obtain ⟨x, _, rfl⟩ := List.mem_map.1 hp; rfl)
 unfold hcells at this
 rwa [List.flatMap_map, List.length_map] at this
theorem mcells_take : ∀ (l : List Mail) (a : Nat), (l.flatMap mailC).take (a * 3) = (l.take a).flatMap mailC
 | [], a => by simp
 | m :: l, 0 => by simp
 | m :: l, a + 1 => by
  show (mailC m ++ l.flatMap mailC).take ((a + 1) * 3) = mailC m ++ (l.take a).flatMap mailC
  rw [← mcells_take l a, List.take_append, List.take_of_length_le (by show 3 ≤ _; omega)]
  congr 2
  show (a + 1) * 3 - 3 = _; omega
theorem mcells_set : ∀ (l : List Mail) (a : Nat) (m : Mail), a < l.length → ((((l.flatMap mailC).set (a * 3) (.int .i64 m.uid)).set (a * 3 + 1) (.int .i64 m.flags)).set (a * 3 + 2) (.string ⟨m.text.toArray⟩)) = (l.set a m).flatMap mailC
 | [], a, m, h => by simp at h
 | x :: l, 0, m, _ => rfl
 | x :: l, a + 1, m, h => by
  have ih := mcells_set l a m (by simpa using h)
  show ((((mailC x ++ l.flatMap mailC).set ((a + 1) * 3) _).set ((a + 1) * 3 + 1) _).set ((a + 1) * 3 + 2) _) = mailC x ++ (l.set a m).flatMap mailC
  rw [← ih, List.set_append_right _ _ (by show 3 ≤ _; omega), List.set_append_right _ _ (by show 3 ≤ _; omega), List.set_append_right _ _ (by show 3 ≤ _; omega)]
  have e0 : (a + 1) * 3 - (mailC x).length = a * 3 := by show (a + 1) * 3 - 3 = _; omega
  have e1 : (a + 1) * 3 + 1 - (mailC x).length = a * 3 + 1 := by show (a + 1) * 3 + 1 - 3 = _; omega
  have e2 : (a + 1) * 3 + 2 - (mailC x).length = a * 3 + 2 := by show (a + 1) * 3 + 2 - 3 = _; omega
  rw [e0, e1, e2]
def DelRel (l L : List Mail) (a j : Nat) : Prop := L.length = l.length ∧ a ≤ j ∧ j ≤ l.length ∧ L.take a = (l.take j).filter keep ∧ L.drop j = l.drop j
theorem DelRel.skip {l L : List Mail} {a j : Nat} (h : DelRel l L a j) (hj : j < l.length) (hd : delB l[j] = true) : DelRel l L a (j + 1) := by
 obtain ⟨h1, h2, h3, h4, h5⟩ := h
 refine ⟨h1, by omega, hj, ?_, ?_⟩
 ·rw [List.take_succ_eq_append_getElem hj, List.filter_append, ← h4]
  simp [keep, hd]
 ·have := congrArg (List.drop 1) h5
  rwa [List.drop_drop, List.drop_drop] at this
theorem DelRel.move {l L : List Mail} {a j : Nat} (h : DelRel l L a j) (hj : j < l.length) (hd : delB l[j] = false) : DelRel l (L.set a l[j]) (a + 1) (j + 1) := by
 obtain ⟨h1, h2, h3, h4, h5⟩ := h
 refine ⟨by rw [List.length_set]; exact h1, by omega, hj, ?_, ?_⟩
 ·rw [List.take_succ_eq_append_getElem hj, List.filter_append, ← h4, List.take_succ_eq_append_getElem (by rw [List.length_set]; omega)]
  rw [List.take_set_of_le (by omega)]
  simp [keep, hd]
 ·rw [List.drop_set_of_lt (by omega)]
  have := congrArg (List.drop 1) h5
  rwa [List.drop_drop, List.drop_drop] at this
theorem DelRel.get {l L : List Mail} {a j : Nat} (h : DelRel l L a j) (hj : j < l.length) : L[j]? = some l[j] := by
 have := congrArg (fun x : List Mail => x[0]?) h.2.2.2.2
 simpa [List.getElem?_drop, List.getElem?_eq_getElem hj] using this
theorem DelRel.init {l : List Mail} {i : Nat} (h : l.findIdx? delB = some i) : DelRel l l i (i + 1) ∧ i < l.length := by
 rw [List.findIdx?_eq_some_iff_getElem] at h
 obtain ⟨hi, h1, h2⟩ := h
 refine ⟨⟨rfl, by omega, hi, ?_, rfl⟩, hi⟩
 rw [List.take_succ_eq_append_getElem hi, List.filter_append]
 have e1 : [l[i]].filter keep = [] := by simp [keep, h1]
 rw [e1, List.append_nil]
 refine (List.filter_eq_self.2 fun m hm => ?_).symm
 obtain ⟨k, hk, rfl⟩ := List.getElem_of_mem hm
 rw [List.length_take] at hk
 rw [List.getElem_take]
 have := h2 k (by omega)
 simpa [keep] using this
theorem clear_mails (w : World) (ty : TypeId) (g o n c : Nat) (hn : 0 < n) (hc : ∀ j, j < n * 3 → (w.cell? ⟨g, o + j, none⟩).isSome = true) (hf : ∀ j, j < n * 3 → w.frozen? ⟨g, o + j, none⟩ = false) :
    (Builtin.clear_ #[117] ty #[.slice (some ⟨g, o, none⟩) n c]).run Tryz.prog w = .ok (.tuple #[]) (w.setCells g o (Builtin.zeroCells #[.int .i64 0, .int .i64 0, .string ⟨#[]⟩] n).toList) := by
 have hlen : (Builtin.zeroCells #[.int .i64 0, .int .i64 0, .string ⟨#[]⟩] n).toList.length = n * 3 := by simp [Builtin.zeroCells]
 have hone : ∀ v ∈ (Builtin.zeroCells #[.int .i64 0, .int .i64 0, .string ⟨#[]⟩] n).toList, v.oneCell' = true := by
  intro v hv
  simp [Builtin.zeroCells] at hv
  obtain ⟨i, _, rfl⟩ := hv
  have h3 : i % 3 < 3 := Nat.mod_lt _ (by omega)
  match i % 3, h3 with
  | 0, _ => rfl
  | 1, _ => rfl
  | 2, _ => rfl
 have hst := run_storeCells_cells (P := Tryz.prog) g o (Builtin.zeroCells #[.int .i64 0, .int .i64 0, .string ⟨#[]⟩] n).toList 0 w (by rw [hlen]; simpa using hc) (by rw [hlen]; simpa using hf) hone
 simp only [Nat.add_zero] at hst
 have hv : ∀ w, (zeroValue 133).run Tryz.prog w = .ok (.agg #[.int .i64 0, .int .i64 0, .string ⟨#[]⟩]) w := fun w => by kernel_rfl
 have hcells : (Value.agg #[.int .i64 0, .int .i64 0, .string ⟨#[]⟩]).cells = #[.int .i64 0, .int .i64 0, .string ⟨#[]⟩] := by kernel_rfl
 obtain ⟨m, rfl⟩ : ∃ m, n = m + 1 := ⟨n - 1, by omega⟩
 simp [Builtin.clear_, run_underlying Tryz.underlying117, hv, hcells, hst]
theorem delete_any (v : Value) (l : List Mail) (base : Nat) (w : World) (hown : w.ownsRow base 133 3 v l.length (l.flatMap mailC)) (hl : l.length ≤ 1000) (hf : ∀ m ∈ l, m.flags ≤ 31) :
    Calls Tryz.prog 92 #[v, .func (.func 93) #[] #[]] w fun e w' => (∃ G c, e = .returned (.slice G (l.filter keep).length c) ∧ w'.ownsRow base 133 3 (.slice G (l.filter keep).length c) (l.filter keep).length ((l.filter keep).flatMap mailC) ∧ (Value.slice G (l.filter keep).length c).ownBlock = v.ownBlock) ∧ w.grownBy w' v.ownBlock := by
 obtain ⟨G0, c0, rfl⟩ : ∃ G c, v = .slice G l.length c := row_form (r := ⟨v, _, _, l.length, _⟩) hown
 have hsat : SAt cMail w (fun b => base ≤ b) (.slice G0 l.length c0) l := SAt.of_row hown (fun b h => h)
 have hI := Lib.hid (indexD_any _ l _ w hsat hl hf)
 have HF := Lib.hid hf
 have HOWN := Lib.hid hown
 clear hf hsat
 cases hfi : l.findIdx? delB with
 | none =>
  have hfl : Hid (l.filter keep = l) := by
   refine List.filter_eq_self.2 fun m hm => ?_
   rw [List.findIdx?_eq_none_iff] at hfi
   have := hfi m hm
   simp [keep, this]
  rw [hfi] at hI
  clear hfi hown
  go_enter Tryz.func92, Tryz.ntmps92
  go_wp2_with fail
  refine hI.out.mono ?_
  rintro e w1 ⟨rfl, hb1⟩
  have HB1 := Lib.hid hb1
  clear hb1
  go_wp2_with fail
  go_ret
  rw [hfl.out]
  exact ⟨⟨G0, c0, rfl, row_down HOWN.out HB1.out, rfl⟩, HB1.out.os, HB1.out.tape, HB1.out.output, HB1.out.size, fun k hk _ => HB1.out.block k hk⟩
 | some i =>
  obtain ⟨hrel0, hi⟩ := DelRel.init hfi
  obtain ⟨g, cap, hv, hg1, hg2⟩ := World.ownsRow.form hown (by omega)
  cases hv
  have hcap : l.length ≤ c0 := by
   rcases hown.2 with ⟨h, _⟩ | ⟨_, _, _, h, _, _, hc, _⟩
   ·cases h
   ·cases h; exact hc
  rw [hfi] at hI
  have hI2 : Hid (Calls Tryz.prog 94 #[.slice (some ⟨g, 0, none⟩) l.length c0, .func (.func 93) #[] #[]] w fun e w' => e = .returned (.int .i64 (i : Int)) ∧ Below w.heap.size w w') := hI.out
  have HREL := Lib.hid hrel0
  have q1 : ((i : Int) == -1) = false := by simp
  clear hfi hown hI hrel0
  go_enter Tryz.func92, Tryz.ntmps92
  go_wp2_with fail
  refine hI2.out.mono ?_
  rintro e w1 ⟨rfl, hb1⟩
  have HB1 : Hid (w.grownBy w1 (some g)) := ⟨hb1.os, hb1.tape, hb1.output, hb1.size, fun k hk _ => hb1.block k hk⟩
  have HOWN1 := Lib.hid (row_down HOWN.out hb1)
  clear hb1 HOWN hI2
  go_wp2_with fail
  clear q1
  go_loopw [5, 6] (fun a j wr => ∃ (L : List Mail) (x y : Nat), a = .int .i64 x ∧ j = .int .i64 y ∧ DelRel l L x y ∧ wr.ownsRow base 133 3 (.slice (some ⟨g, 0, none⟩) l.length c0) l.length (L.flatMap mailC) ∧ w.grownBy wr (some g)) (fun _ j _ => l.length - (intOf j).toNat)
  case atStart => exact ⟨l, i, i + 1, rfl, by go_num, HREL.out, HOWN1.out, HB1.out⟩
  case round =>
   obtain ⟨L, x, y, rfl, rfl, hr, ho, hg⟩ := hrel
   have hgw : g < wr.heap.size := Nat.lt_of_lt_of_le hg2 hg.size
   have hxy : x ≤ y := hr.2.1
   have hyl : y ≤ l.length := hr.2.2.1
   have HR := Lib.hid hr; have HO := Lib.hid ho; have HG := Lib.hid hg
   clear hr ho hg
   by_cases hlt : y < l.length
   ·have hm := HR.out.get hlt
    obtain ⟨c0', c1', c2'⟩ := mail_own HO.out y l[y] hm hlt
    have hfl := HF.out l[y] (List.getElem_mem _)
    have HSK := Lib.hid (HR.out.skip hlt); have HMV := Lib.hid (HR.out.move hlt)
    obtain ⟨mx, hmx⟩ : ∃ mx, L[x]? = some mx := ⟨_, List.getElem?_eq_getElem (by have := HR.out.1; omega)⟩
    have HMX := Lib.hid hmx
    clear hm hmx
    generalize l[y] = m at c0' c1' c2' hfl HSK HMV
    have hA := ba (Below.refl wr.heap.size wr) (.cells #[.int .i64 m.uid, .int .i64 m.flags, .string ⟨m.text.toArray⟩] 133)
    have HOA := Lib.hid (row_down HO.out hA)
    have hC := Lib.hid (delc_any m (wr.alloc (.cells #[.int .i64 m.uid, .int .i64 m.flags, .string ⟨m.text.toArray⟩] 133)) hfl)
    have HX := Lib.hid (Has.alloc wr [.int .i64 m.uid, .int .i64 m.flags, .string ⟨m.text.toArray⟩] 133)
    have HA := Lib.hid hA
    clear hA
    cases hd : delB m with
    | true =>
     have hrel2 : Hid (DelRel l L x (y + 1)) := HSK.out hd
     rw [hd] at hC
     clear hd HSK HMV
     go_wp2_with fail
     refine hC.out.mono ?_
     rintro e w2 ⟨rfl, hb2⟩
     have HO2 := Lib.hid (row_down HOA.out hb2)
     have HG2 : Hid (w.grownBy w2 (some g)) := by
      have hb := bt HA.out hb2
      exact Go.Lib.grownBy_trans HG.out ⟨hb.os, hb.tape, hb.output, hb.size, fun k hk _ => hb.block k hk⟩
     clear hb2 c0' c1' c2'
     go_wp2_with fail
     go_roundw
     case rel => exact ⟨L, x, y + 1, rfl, by go_num, hrel2.out, HO2.out, HG2.out⟩
     case measure => simp [intOf]; omega
    | false =>
     have hrel2 : Hid (DelRel l (L.set x m) (x + 1) (y + 1)) := HMV.out hd
     rw [hd] at hC
     clear hd HSK HMV
     go_wp2_with fail
     refine hC.out.mono ?_
     rintro e w2 ⟨rfl, hb2⟩
     have ho2 := row_down HOA.out hb2
     obtain ⟨d0, d1, d2⟩ := mail_own ho2 x mx HMX.out (by omega)
     have f0 := World.ownsRow.frozenAt ho2 (x * 3)
     have f1 := World.ownsRow.frozenAt ho2 (x * 3 + 1)
     have f2 := World.ownsRow.frozenAt ho2 (x * 3 + 2)
     obtain ⟨e0, e1, e2⟩ : w2.cell? ⟨wr.heap.size, 0, none⟩ = some (.int .i64 m.uid) ∧ w2.cell? ⟨wr.heap.size, 1, none⟩ = some (.int .i64 m.flags) ∧ w2.cell? ⟨wr.heap.size, 2, none⟩ = some (.string ⟨m.text.toArray⟩) := ⟨(HX.out.down hb2).1 0 _ rfl, (HX.out.down hb2).1 1 _ rfl, (HX.out.down hb2).1 2 _ rfl⟩
     have hg2' : w.grownBy w2 (some g) := by
      have hb := bt HA.out hb2
      exact Go.Lib.grownBy_trans HG.out ⟨hb.os, hb.tape, hb.output, hb.size, fun k hk _ => hb.block k hk⟩
     obtain ⟨s1, g1⟩ := World.ownsRow.stored ho2 (x * 3) (.int .i64 m.uid)
     obtain ⟨s2, g2⟩ := World.ownsRow.stored s1 (x * 3 + 1) (.int .i64 m.flags)
     obtain ⟨s3, g3⟩ := World.ownsRow.stored s2 (x * 3 + 2) (.string ⟨m.text.toArray⟩)
     rw [mcells_set L x m (by have := HR.out.1; omega)] at s3
     have HS3 := Lib.hid s3; have HG3 := Lib.hid (Go.Lib.grownBy_trans hg2' (Go.Lib.grownBy_trans g1 (Go.Lib.grownBy_trans g2 g3)))
     have hxl : x < l.length := by omega
     have hz2 : wr.heap.size < w2.heap.size := (HX.out.down hb2).2.2
     clear hb2 c0' c1' c2' ho2 s1 s2 s3 g1 g2 g3 hg2'
     go_wp2_with fail
     go_roundw
     case rel => exact ⟨L.set x m, x + 1, y + 1, by go_num, by go_num, hrel2.out, HS3.out, HG3.out⟩
     case measure => simp [intOf]; omega
   ·obtain rfl : y = l.length := by omega
    obtain ⟨r1, r2, r3, r4, r5⟩ := HR.out
    rw [List.take_length] at r4
    have hxK : x = (l.filter keep).length := by
     rw [← r4, List.length_take]; omega
    obtain ⟨K, hK⟩ : ∃ K, K = l.filter keep := ⟨_, rfl⟩
    rw [← hK] at hxK r4
    have HK := Lib.hid hK
    subst hxK
    have hKl : K.length < l.length := by
     have h1 : K.length ≤ l.length := by rw [hK]; exact List.length_filter_le _ _
     rcases Nat.lt_or_ge K.length l.length with h | h
     ·exact h
     ·exfalso
      have h2 := HREL.out.2.2.2.1
      have h3 : ∀ a ∈ l, keep a = true := by
       have : (l.filter keep).length = l.length := by rw [← hK]; omega
       exact List.length_filter_eq_length_iff.1 this
      have h4 := congrArg List.length h2
      rw [List.filter_eq_self.2 (fun m hm => h3 m (List.mem_of_mem_take hm)), List.length_take, List.length_take] at h4
      omega
    have hcut := row_cut HO.out (a := K.length) (by omega)
    rw [mcells_take, r4] at hcut
    have hcl : ∀ ty, (Builtin.clear_ #[117] ty #[.slice (some ⟨g, K.length * 3, none⟩) (l.length - K.length) (c0 - K.length)]).run Tryz.prog wr = .ok (.tuple #[]) (wr.setCells g (K.length * 3) (Builtin.zeroCells #[.int .i64 0, .int .i64 0, .string ⟨#[]⟩] (l.length - K.length)).toList) :=
     fun ty => clear_mails wr ty g (K.length * 3) (l.length - K.length) (c0 - K.length) (by omega)
      (fun j hj => by
       have hb : K.length * 3 + j < l.length * 3 := by omega
       rw [World.ownsRow.cellAt HO.out (K.length * 3 + j) hb, List.getElem?_eq_getElem (by rw [mcells_len]; omega)]; rfl)
      (fun j _ => World.ownsRow.frozenAt HO.out (K.length * 3 + j))
    obtain ⟨s1, g1⟩ := row_setCells (Builtin.zeroCells #[.int .i64 0, .int .i64 0, .string ⟨#[]⟩] (l.length - K.length)).toList (K.length * 3) wr hcut (Nat.le_refl _)
    have HS := Lib.hid s1; have HGG := Lib.hid (Go.Lib.grownBy_trans HG.out g1)
    have hKc : K.length ≤ c0 := by omega
    clear r1 r2 r3 r4 r5 hcut s1 g1 hK
    have hKlt : K.length < c0 := by omega
    go_wp2_with fail
    go_ret
    rw [← HK.out]
    exact ⟨⟨_, _, rfl, HS.out, rfl⟩, HGG.out⟩
structure Opn (w : World) (base R : Nat) (s : St) (qs : List BQ) (vB vS : Value) : Prop where
 boxes : s.boxes = qs.map Prod.fst
 has : Has w R [vB, vS]
 low : base ≤ R
 rows : Rows w base (rowsOf qs vB vS s.spool)
 off : OffR (rowsOf qs vB vS s.spool) R
theorem OwnS.opn {w : World} {base R : Nat} {s : St} (h : OwnS w base R s) : ∃ qs vB vS, Opn w base R s qs vB vS := by
 obtain ⟨qs, vB, vS, h1, h2, h3, h4, h5⟩ := h
 exact ⟨qs, vB, vS, h1, h2, h3, h4, h5⟩
theorem Opn.own {w : World} {base R : Nat} {s : St} {qs : List BQ} {vB vS : Value} (h : Opn w base R s qs vB vS) : OwnS w base R s := ⟨qs, vB, vS, h.boxes, h.has, h.low, h.rows, h.off⟩
theorem Opn.down {w w' : World} {base R : Nat} {s : St} {qs : List BQ} {vB vS : Value} (h : Opn w base R s qs vB vS) (hb : Below w.heap.size w w') : Opn w' base R s qs vB vS := ⟨h.boxes, h.has.down hb, h.low, h.rows.down hb, h.off⟩
theorem Opn.form {w : World} {base R : Nat} {s : St} {qs : List BQ} {vB vS : Value} (h : Opn w base R s qs vB vS) : (∃ G c, vB = .slice G s.boxes.length c) ∧ ∃ G c, vS = .slice G s.spool.length c := by
 refine ⟨?_, ?_⟩
 ·obtain ⟨G, c, e⟩ := row_form (h.rows.1 _ (List.mem_cons_self ..))
  exact ⟨G, c, by rw [h.boxes, List.length_map]; exact e⟩
 ·exact row_form (h.rows.1 _ (List.mem_cons_of_mem _ (List.mem_cons_self ..)))
theorem Opn.sat {w : World} {base R : Nat} {s : St} {qs : List BQ} {vB vS : Value} (h : Opn w base R s qs vB vS) : SAt cBox w (fun b => base ≤ b) vB s.boxes := by
 rw [h.boxes]; exact h.rows.boxes (fun b h => h)
theorem own_spool {w w5 : World} {base R g5 cap5 : Nat} {s : St} {x : Ent} {qs : List BQ} {vB : Value} {G : Option Addr} {c : Nat} (h : Opn w base R s qs vB (.slice G s.spool.length c)) (hgrow : w.grownBy w5 (Value.slice G s.spool.length c).ownBlock)
    (hown5 : w5.ownsRow base 80 6 (.slice (some ⟨g5, 0, none⟩) (s.spool.length + 1) cap5) (s.spool.length + 1) (s.spool.flatMap entC ++ entC x)) (hat : (Value.slice G s.spool.length c).ownBlock = some g5 ∨ g5 = w.heap.size) :
    OwnS (w5.setCell ⟨R, 1, none⟩ (.slice (some ⟨g5, 0, none⟩) (s.spool.length + 1) cap5)) base R ⟨s.boxes, s.spool ++ [x]⟩ := by
 have hRs : some R ≠ (Value.slice G s.spool.length c).ownBlock := fun e => h.off _ (List.mem_cons_of_mem _ (List.mem_cons_self ..)) e.symm
 have hg5 : g5 ≠ R := by
  intro e; subst e
  rcases hat with e | e
  ·exact hRs e.symm
  ·have := h.has.2.2; omega
 have hput := h.rows.put (i := 1) (r := rowS (.slice G s.spool.length c) s.spool) (r' := rowS (.slice (some ⟨g5, 0, none⟩) (s.spool.length + 1) cap5) (s.spool ++ [x])) rfl hgrow (by
  show w5.ownsRow base 80 6 _ (s.spool ++ [x]).length ((s.spool ++ [x]).flatMap entC)
  rw [List.length_append, List.flatMap_append]
  have : ([x] : List Ent).flatMap entC = entC x := by simp
  rw [this]; exact hown5) (by
  rcases hat with e | e
  ·exact .inl e.symm
  ·exact .inr (.inr ⟨g5, rfl, by omega⟩))
 have hoff : OffR ((rowsOf qs vB (.slice G s.spool.length c) s.spool).set 1 (rowS (.slice (some ⟨g5, 0, none⟩) (s.spool.length + 1) cap5) (s.spool ++ [x]))) R := offR_put h.off (fun e => hg5 (Option.some.inj e))
 exact ⟨qs, vB, .slice (some ⟨g5, 0, none⟩) (s.spool.length + 1) cap5, h.boxes, (h.has.kept hgrow hRs).set' (i := 1) _ (by simp), h.low, hput.else' (Go.Lib.grownBy_setB (World.grownBy.refl w5 (some R)) 1 _) hoff, hoff⟩
theorem own_create {w w5 : World} {base R g5 cap5 : Nat} {s : St} {nm : List UInt8} {qs : List BQ} {vS : Value} {G : Option Addr} {c : Nat} (h : Opn w base R s qs (.slice G qs.length c) vS) (hgrow : w.grownBy w5 (Value.slice G qs.length c).ownBlock)
    (hown5 : w5.ownsRow base 119 3 (.slice (some ⟨g5, 0, none⟩) (qs.length + 1) cap5) (qs.length + 1) (bxcells qs ++ bxC (⟨nm, 1, []⟩, .slice none 0 0))) (hat : (Value.slice G qs.length c).ownBlock = some g5 ∨ g5 = w.heap.size) :
    OwnS (w5.setCell ⟨R, 0, none⟩ (.slice (some ⟨g5, 0, none⟩) (qs.length + 1) cap5)) base R ⟨s.boxes ++ [⟨nm, 1, []⟩], s.spool⟩ := by
 have hRs : some R ≠ (Value.slice G qs.length c).ownBlock := fun e => h.off _ (List.mem_cons_self ..) e.symm
 have hg5 : g5 ≠ R := by
  intro e; subst e
  rcases hat with e | e
  ·exact hRs e.symm
  ·have := h.has.2.2; omega
 have hadd : Rows w base (rowsOf qs (.slice G qs.length c) vS s.spool ++ [rowM (⟨nm, 1, []⟩, .slice none 0 0)]) :=
  h.rows.add (w := w) (World.ownsRow_nil _ _ _ _) (fun x hx k hk => (World.ownsRow.lt (h.rows.1 x hx) k hk).2) (.inl rfl)
 have hput := hadd.put (i := 0) (r := rowB (.slice G qs.length c) qs) (r' := rowB (.slice (some ⟨g5, 0, none⟩) (qs.length + 1) cap5) (qs ++ [(⟨nm, 1, []⟩, .slice none 0 0)])) rfl hgrow (by
  show w5.ownsRow base 119 3 _ (qs ++ [_]).length (bxcells (qs ++ [_]))
  rw [bxcells_snoc, List.length_append]; exact hown5) (by
  rcases hat with e | e
  ·exact .inl e.symm
  ·exact .inr (.inr ⟨g5, rfl, by omega⟩))
 have hoff : OffR ((rowsOf qs (.slice G qs.length c) vS s.spool ++ [rowM (⟨nm, 1, []⟩, .slice none 0 0)]).set 0 (rowB (.slice (some ⟨g5, 0, none⟩) (qs.length + 1) cap5) (qs ++ [(⟨nm, 1, []⟩, .slice none 0 0)]))) R :=
  offR_put (offR_add h.off (fun e => by cases e)) (fun e => hg5 (Option.some.inj e))
 rw [rows_last] at hput hoff
 exact ⟨_, _, vS, by show s.boxes ++ _ = _; rw [h.boxes, List.map_append]; rfl, (h.has.kept hgrow hRs).set' (i := 0) _ (by simp), h.low, hput.else' (Go.Lib.grownBy_setB (World.grownBy.refl w5 (some R)) 0 _) hoff, hoff⟩
theorem Opn.box {w : World} {base R i : Nat} {s : St} {qs : List BQ} {vB vS : Value} {b : Bx} (h : Opn w base R s qs vB vS) (hb : s.boxes[i]? = some b) :
    ∃ g cap G c, vB = .slice (some ⟨g, 0, none⟩) s.boxes.length cap ∧ base ≤ g ∧ g < w.heap.size ∧ i < s.boxes.length ∧ qs[i]? = some (b, .slice G b.mails.length c) ∧ (rowM (b, .slice G b.mails.length c)).At w base ∧ some g ≠ (Value.slice G b.mails.length c).ownBlock ∧ some R ≠ (Value.slice G b.mails.length c).ownBlock ∧ R ≠ g ∧
     (rowB (.slice (some ⟨g, 0, none⟩) s.boxes.length cap) qs).At w base ∧ w.cell? ⟨g, i * 3, none⟩ = some (.string ⟨b.name.toArray⟩) ∧ w.cell? ⟨g, i * 3 + 1, none⟩ = some (.int .i64 b.next) ∧ w.cell? ⟨g, i * 3 + 2, none⟩ = some (.slice G b.mails.length c) ∧ w.frozen? ⟨g, i * 3 + 2, none⟩ = false := by
 have hlt : i < s.boxes.length := (List.getElem?_eq_some_iff.1 hb).1
 have hql : qs.length = s.boxes.length := by rw [h.boxes, List.length_map]
 obtain ⟨q, hq⟩ : ∃ q, qs[i]? = some q := ⟨_, List.getElem?_eq_getElem (by omega)⟩
 have e : q.1 = b := by
  have : s.boxes[i]? = some q.1 := by rw [h.boxes, List.getElem?_map, hq]; rfl
  rw [hb] at this; exact (Option.some.inj this).symm
 subst e
 obtain ⟨b, u⟩ := q
 obtain ⟨g, cap, hvB, hgb, hgw⟩ := World.ownsRow.form (h.rows.1 _ (List.mem_cons_self ..)) (show 0 < (rowB vB qs).n by show 0 < qs.length; omega)
 obtain rfl : vB = .slice (some ⟨g, 0, none⟩) qs.length cap := hvB
 have hrow := h.rows.1 (rowM (b, u)) (List.mem_cons_of_mem _ (List.mem_cons_of_mem _ (List.mem_map_of_mem (List.mem_of_getElem? hq))))
 obtain ⟨G, c, rfl⟩ : ∃ G c, u = .slice G b.mails.length c := row_form hrow
 have hown := h.rows.1 _ (List.mem_cons_self ..)
 have hcell : ∀ j, j < 3 → w.cell? ⟨g, i * 3 + j, none⟩ = (bxC (b, .slice G b.mails.length c))[j]? := fun j hj => (World.ownsRow.cellAt hown (i * 3 + j) (by show i * 3 + j < qs.length * 3; omega)).trans (bxcells_at qs i j _ hq hj)
 refine ⟨g, cap, G, c, by rw [hql], hgb, hgw, hlt, hq, hrow, ?_, ?_, ?_, ?_, hcell 0 (by omega), hcell 1 (by omega), hcell 2 (by omega), World.ownsRow.frozenAt hown (i * 3 + 2)⟩
 ·rcases h.rows.2 0 (i + 2) _ (rowM (b, .slice G b.mails.length c)) rfl (by show (qs.map rowM)[i]? = _; rw [List.getElem?_map, hq]; rfl) (by omega) with h | h
  ·cases h
  ·exact h
 ·exact fun e => h.off (rowM (b, .slice G b.mails.length c)) (List.mem_cons_of_mem _ (List.mem_cons_of_mem _ (List.mem_map_of_mem (List.mem_of_getElem? hq)))) e.symm
 ·exact fun e => h.off _ (List.mem_cons_self ..) (by rw [e]; rfl)
 ·rw [← hql]; exact hown
theorem bxcells_set2 : ∀ (qs : List BQ) (i : Nat) (q : BQ) (b' : Bx) (v : Value), qs[i]? = some q → b'.name = q.1.name → b'.next = q.1.next → (bxcells qs).set (i * 3 + 2) v = bxcells (qs.set i (b', v))
 | [], i, q, b', v, h, _, _ => by simp at h
 | a :: l, 0, q, b', v, h, hn, hx => by
  obtain rfl : a = q := by simpa using h
  show ([.string ⟨a.1.name.toArray⟩, .int .i64 a.1.next, v] : List Value) ++ bxcells l = bxC (b', v) ++ bxcells l
  unfold bxC; rw [hn, hx]
 | a :: l, i + 1, q, b', v, h, hn, hx => by
  have ih := bxcells_set2 l i q b' v (by simpa using h) hn hx
  show (bxC a ++ bxcells l).set ((i + 1) * 3 + 2) v = bxC a ++ bxcells (l.set i (b', v))
  rw [← ih, List.set_append_right _ _ (by show 3 ≤ _; omega)]
  congr 2
  show (i + 1) * 3 + 2 - 3 = _; omega
theorem rows_mail2 {w w' : World} {base i g cap : Nat} {qs : List BQ} {vS v5 : Value} {sp : List Ent} {q : BQ} {b' : Bx} (h : Rows w base (rowsOf qs (.slice (some ⟨g, 0, none⟩) qs.length cap) vS sp)) (hq : qs[i]? = some q) (hgrow : w.grownBy w' q.2.ownBlock)
    (h' : (rowM (b', v5)).At w' base) (hv : v5.ownBlock = q.2.ownBlock ∨ v5.ownBlock = none ∨ ∃ H, v5.ownBlock = some H ∧ w.heap.size ≤ H) (hname : b'.name = q.1.name) (hnext : b'.next = q.1.next) :
    Rows (w'.setCell ⟨g, i * 3 + 2, none⟩ v5) base (rowsOf (qs.set i (b', v5)) (.slice (some ⟨g, 0, none⟩) (qs.set i (b', v5)).length cap) vS sp) := by
 have h1 := h.put (i := i + 2) (r := rowM q) (r' := rowM (b', v5)) (by show (qs.map rowM)[i]? = _; rw [List.getElem?_map, hq]; rfl) hgrow h' hv
 have hB : (rowB (.slice (some ⟨g, 0, none⟩) qs.length cap) qs).At w' base := h1.1 _ (by unfold rowsOf; rw [List.set_cons_succ]; exact List.mem_cons_self ..)
 obtain ⟨s1, g1⟩ := World.ownsRow.stored hB (i * 3 + 2) v5
 rw [show (rowB (.slice (some ⟨g, 0, none⟩) qs.length cap) qs).cells = bxcells qs from rfl, bxcells_set2 qs i q b' v5 hq hname hnext] at s1
 have h2 := h1.put (i := 0) (r := rowB (.slice (some ⟨g, 0, none⟩) qs.length cap) qs) (r' := rowB (.slice (some ⟨g, 0, none⟩) (qs.set i (b', v5)).length cap) (qs.set i (b', v5))) rfl g1
  (by show World.ownsRow _ base 119 3 (.slice (some ⟨g, 0, none⟩) (qs.set i (b', v5)).length cap) (qs.set i (b', v5)).length _; rw [List.length_set]; exact s1) (.inl rfl)
 have e := rows_set qs i (.slice (some ⟨g, 0, none⟩) qs.length cap) vS v5 sp b'
 rw [List.length_set] at h2 ⊢
 rw [e] at h2
 exact h2
theorem own_flag {w : World} {base R i g cap gm k fl : Nat} {s : St} {qs : List BQ} {vS : Value} {b : Bx} {m : Mail} {c : Nat} (h : Opn w base R s qs (.slice (some ⟨g, 0, none⟩) s.boxes.length cap) vS) (hq : qs[i]? = some (b, .slice (some ⟨gm, 0, none⟩) b.mails.length c))
    (hm : b.mails[k]? = some m) (hR : R ≠ gm) : OwnS (w.setCell ⟨gm, k * 3 + 1, none⟩ (.int .i64 fl)) base R ⟨s.boxes.set i ⟨b.name, b.next, b.mails.set k ⟨m.uid, fl, m.text⟩⟩, s.spool⟩ := by
 have hlt : k < b.mails.length := (List.getElem?_eq_some_iff.1 hm).1
 have hrow : (rowM (b, .slice (some ⟨gm, 0, none⟩) b.mails.length c)).At w base := h.rows.1 _ (List.mem_cons_of_mem _ (List.mem_cons_of_mem _ (List.mem_map_of_mem (List.mem_of_getElem? hq))))
 obtain ⟨s1, g1⟩ := World.ownsRow.stored hrow (k * 3 + 1) (.int .i64 fl)
 have e : ((b.mails.flatMap mailC).set (k * 3 + 1) (.int .i64 fl)) = (b.mails.set k ⟨m.uid, fl, m.text⟩).flatMap mailC := by
  rw [← mcells_set b.mails k ⟨m.uid, fl, m.text⟩ hlt]
  have c0 := mcells_at b.mails k 0 m hm (by omega)
  have c2 := mcells_at b.mails k 2 m hm (by omega)
  have l0 : k * 3 < (b.mails.flatMap mailC).length := by rw [mcells_len]; omega
  have l2 : k * 3 + 2 < (b.mails.flatMap mailC).length := by rw [mcells_len]; omega
  have e0 : (b.mails.flatMap mailC).set (k * 3) (.int .i64 m.uid) = b.mails.flatMap mailC := by
   have : (b.mails.flatMap mailC)[k * 3] = .int .i64 m.uid := by
    have := c0.symm.trans (List.getElem?_eq_getElem l0)
    exact (Option.some.inj this).symm
   rw [← this, List.set_getElem_self]
  show _ = (((b.mails.flatMap mailC).set (k * 3) (.int .i64 m.uid)).set (k * 3 + 1) (.int .i64 fl)).set (k * 3 + 2) (.string ⟨m.text.toArray⟩)
  rw [e0]
  have e2 : ((b.mails.flatMap mailC).set (k * 3 + 1) (.int .i64 fl))[k * 3 + 2]'(by rw [List.length_set]; exact l2) = .string ⟨m.text.toArray⟩ := by
   rw [List.getElem_set_ne (by omega)]
   have := c2.symm.trans (List.getElem?_eq_getElem l2)
   exact (Option.some.inj this).symm
  rw [← e2, List.set_getElem_self]
 rw [show (rowM (b, .slice (some ⟨gm, 0, none⟩) b.mails.length c)).cells = b.mails.flatMap mailC from rfl, e] at s1
 have h1 := h.rows.put (i := i + 2) (r := rowM (b, .slice (some ⟨gm, 0, none⟩) b.mails.length c)) (r' := rowM (⟨b.name, b.next, b.mails.set k ⟨m.uid, fl, m.text⟩⟩, .slice (some ⟨gm, 0, none⟩) b.mails.length c)) (by show (qs.map rowM)[i]? = _; rw [List.getElem?_map, hq]; rfl) g1
  (by show World.ownsRow _ base 133 3 _ (b.mails.set k ⟨m.uid, fl, m.text⟩).length _; rw [List.length_set]; exact s1) (.inl rfl)
 have hql : s.boxes.length = qs.length := by rw [h.boxes, List.length_map]
 have hcells : bxcells qs = bxcells (qs.set i (⟨b.name, b.next, b.mails.set k ⟨m.uid, fl, m.text⟩⟩, .slice (some ⟨gm, 0, none⟩) b.mails.length c)) := by
  have e := bxcells_set2 qs i _ ⟨b.name, b.next, b.mails.set k ⟨m.uid, fl, m.text⟩⟩ (.slice (some ⟨gm, 0, none⟩) b.mails.length c) hq rfl rfl
  rw [← e]
  have hil : i < qs.length := (List.getElem?_eq_some_iff.1 hq).1
  have c2 := bxcells_at qs i 2 _ hq (by omega)
  obtain ⟨l2, e2⟩ := List.getElem?_eq_some_iff.1 (c2.trans (show _ = some (Value.slice (some ⟨gm, 0, none⟩) b.mails.length c) from rfl))
  rw [← e2, List.set_getElem_self]
 have hsame : (rowsOf qs (.slice (some ⟨g, 0, none⟩) s.boxes.length cap) vS s.spool).set (i + 2) (rowM (⟨b.name, b.next, b.mails.set k ⟨m.uid, fl, m.text⟩⟩, .slice (some ⟨gm, 0, none⟩) b.mails.length c)) = rowsOf (qs.set i (⟨b.name, b.next, b.mails.set k ⟨m.uid, fl, m.text⟩⟩, .slice (some ⟨gm, 0, none⟩) b.mails.length c)) (.slice (some ⟨g, 0, none⟩) s.boxes.length cap) vS s.spool := by
  unfold rowsOf rowB
  rw [← hcells, List.length_set]
  simp [List.map_set]
 have hoff : OffR ((rowsOf qs (.slice (some ⟨g, 0, none⟩) s.boxes.length cap) vS s.spool).set (i + 2) (rowM (⟨b.name, b.next, b.mails.set k ⟨m.uid, fl, m.text⟩⟩, .slice (some ⟨gm, 0, none⟩) b.mails.length c))) R := offR_put h.off (fun e => hR (Option.some.inj e).symm)
 rw [hsame] at h1 hoff
 exact ⟨_, _, vS, by show s.boxes.set i _ = _; rw [List.map_set, h.boxes], h.has.else' hR _, h.low, h1, hoff⟩
theorem own_mails {w w' : World} {base R i g cap : Nat} {s : St} {qs : List BQ} {vS : Value} {b : Bx} {G G' : Option Addr} {c c' : Nat} {l : List Mail} (h : Opn w base R s qs (.slice (some ⟨g, 0, none⟩) s.boxes.length cap) vS) (hq : qs[i]? = some (b, .slice G b.mails.length c))
    (hgrow : w.grownBy w' (Value.slice G b.mails.length c).ownBlock) (hrow : w'.ownsRow base 133 3 (.slice G' l.length c') l.length (l.flatMap mailC)) (hv : (Value.slice G' l.length c').ownBlock = (Value.slice G b.mails.length c).ownBlock)
    (hR : some R ≠ (Value.slice G b.mails.length c).ownBlock) (hRg : R ≠ g) : OwnS (w'.setCell ⟨g, i * 3 + 2, none⟩ (.slice G' l.length c')) base R ⟨s.boxes.set i ⟨b.name, b.next, l⟩, s.spool⟩ := by
 have hql : s.boxes.length = qs.length := by rw [h.boxes, List.length_map]
 rw [hql] at h
 have h1 := rows_mail2 (b' := ⟨b.name, b.next, l⟩) h.rows hq hgrow hrow (.inl hv) rfl rfl
 refine ⟨_, _, vS, ?_, ?_, h.low, h1, ?_⟩
 ·show s.boxes.set i _ = _
  rw [List.map_set, h.boxes]
 ·rw [List.length_set]
  exact (h.has.kept hgrow hR).else' hRg _
 ·rw [← rows_set]
  refine offR_put (offR_put ?_ (fun e => hR (by rw [← hv]; exact e.symm))) (fun e => hRg (Option.some.inj e).symm)
  rw [List.length_set]; exact h.off
def AppS (s : St) (x : Ent) (base R : Nat) (w : World) (e : Ending) (w' : World) : Prop := e = .returned (.int .i64 (applyS s x).2) ∧ OwnS w' base R (applyS s x).1 ∧ Below base w w'
theorem form_kinds {x : Ent} (h : formV x = 0) : 1 ≤ x.kind ∧ x.kind ≤ 6 := by
 unfold formV at h
 split at h
 ·cases h
 ·omega
theorem form_bounds {x : Ent} (h : formV x = 0) : x.flags ≤ 31 ∧ x.text.length ≤ 2000 := by
 have hk := form_kinds h
 unfold formV at h
 rw [if_neg (by omega)] at h
 split at h
 ·cases h
 ·split at h
  ·cases h
  ·split at h
   ·cases h
   ·omega
theorem keep_eq : keep = fun m => m.flags &&& 8 == 0 := by
 funext m
 simp [keep, delB, bne]
theorem own_create2 {w w5 : World} {base R g5 cap5 : Nat} {s : St} {nm : List UInt8} {qs : List BQ} {vS : Value} {G : Option Addr} {c : Nat} (h : Opn w base R s qs (.slice G s.boxes.length c) vS) (hgrow : w.grownBy w5 (Value.slice G s.boxes.length c).ownBlock)
    (hown5 : w5.ownsRow base 119 3 (.slice (some ⟨g5, 0, none⟩) (s.boxes.length + 1) cap5) (s.boxes.length + 1) (bxcells qs ++ bxC (⟨nm, 1, []⟩, .slice none 0 0))) (hat : (Value.slice G s.boxes.length c).ownBlock = some g5 ∨ g5 = w.heap.size) :
    OwnS (w5.setCell ⟨R, 0, none⟩ (.slice (some ⟨g5, 0, none⟩) (s.boxes.length + 1) cap5)) base R ⟨s.boxes ++ [⟨nm, 1, []⟩], s.spool⟩ := by
 have e : s.boxes.length = qs.length := by rw [h.boxes, List.length_map]
 rw [e] at h hgrow hown5 hat ⊢
 exact own_create h hgrow hown5 hat
theorem idx_dec (o : Option Nat) : (o = none ∧ idx o = -1) ∨ ∃ i : Nat, o = some i ∧ idx o = (i : Int) := by
 cases o with
 | none => exact .inl ⟨rfl, rfl⟩
 | some i => exact .inr ⟨i, rfl, rfl⟩
theorem apply_any (s : St) (x : Ent) (base R : Nat) (w : World) (h : OwnS w base R s) (hg : GoodS s) (hx : formV x = 0) :
    Calls Tryz.prog 55 #[.pointer (some ⟨R, 0, none⟩), .agg #[.int .i64 x.kind, .string ⟨x.box.toArray⟩, .int .i64 x.uid, .int .i64 x.flags, .string ⟨x.to.toArray⟩, .string ⟨x.text.toArray⟩]] w (AppS s x base R w) := by
 obtain ⟨qs, vB, vS, ho⟩ := h.opn
 obtain ⟨⟨Gb, cb, rfl⟩, Gs, cS, rfl⟩ := ho.form
 have hbs := h.size
 obtain ⟨hk1, hk6⟩ := form_kinds hx
 have HG := Lib.hid hg; have HBS := Lib.hid hbs
 obtain ⟨hfl, htx⟩ := form_bounds hx
 obtain ⟨e0, he0, ez0, ez1, ez2⟩ := info_parts infoEnt2
 have EI := Lib.hid he0; have EZ0 := Lib.hid ez0; have EZ1 := Lib.hid ez1; have EZ2 := Lib.hid ez2
 obtain ⟨b0, hb0, bz0, bz1, bz2⟩ := info_parts infoBx
 have BI := Lib.hid hb0; have BZ0 := Lib.hid bz0; have BZ1 := Lib.hid bz1; have BZ2 := Lib.hid bz2
 clear he0 ez0 ez1 ez2 hb0 bz0 bz1 bz2
 have hA := ba (Below.refl w.heap.size w) (.cells #[.int .i64 x.kind, .string ⟨x.box.toArray⟩, .int .i64 x.uid, .int .i64 x.flags, .string ⟨x.to.toArray⟩, .string ⟨x.text.toArray⟩] 80)
 have HX := Lib.hid (Has.alloc w [.int .i64 x.kind, .string ⟨x.box.toArray⟩, .int .i64 x.uid, .int .i64 x.flags, .string ⟨x.to.toArray⟩, .string ⟨x.text.toArray⟩] 80)
 have HO := Lib.hid (ho.down hA); have HA := Lib.hid hA
 have hRw := ho.has.2.2
 have hbl := hg.boxes; have hsl := hg.spool
 have hF : Hid (∀ w', Below w.heap.size w w' → Calls Tryz.prog 84 #[.slice Gb s.boxes.length cb, .string ⟨x.box.toArray⟩] w' fun e w'' => e = .returned (.int .i64 (idx (findB s.boxes x.box))) ∧ Below w'.heap.size w' w'') :=
  fun w' hb => find_any _ s.boxes _ x.box w' (ho.sat.down hb) (by omega)
 have hlow := ho.low
 clear hA ho hg hx h
 go_enter Tryz.func55, Tryz.ntmps55
 go_wp2_with fail
 obtain ⟨N, hN⟩ : ∃ N, N = w.heap.size := ⟨_, rfl⟩
 obtain ⟨W0, hW0⟩ : ∃ W0, W0 = w.alloc (.cells #[.int .i64 x.kind, .string ⟨x.box.toArray⟩, .int .i64 x.uid, .int .i64 x.flags, .string ⟨x.to.toArray⟩, .string ⟨x.text.toArray⟩] 80) := ⟨_, rfl⟩
 rw [← hW0] at HX HO HA ⊢
 rw [← hN] at HX hRw hbs ⊢
 clear hW0 hN
 obtain ⟨r0, r1, -, -⟩ := HO.out.has.two
 have x1 := HX.out.1 1 _ rfl
 have hdr := Below.drew (Below.refl W0.heap.size W0)
 go_still_tail 6, (by kernel_rfl)
 change wpList _ _ _ _ _ W0.drew
 go_wp2_with fail
 refine (hF.out _ (bt HA.out hdr)).mono ?_
 rintro e w2 ⟨rfl, hb2⟩
 replace HX := Lib.hid ((HX.out.down hdr).down hb2); replace HO := Lib.hid ((HO.out.down hdr).down hb2); replace HA := Lib.hid (bt (bt HA.out hdr) hb2)
 clear r0 r1 x1 hdr hb2 hF
 obtain ⟨r0, r1, rf0, rf1⟩ := HO.out.has.two
 obtain ⟨x0, x1, x2, x3, x4, x5⟩ := HX.out.six
 have hNz := HX.out.2.2
 by_cases c6 : x.kind = 6
 ·have q6 : ((x.kind : Int) == 6) = true := by simp; omega
  by_cases c20 : s.spool.length = 20
  ·have q20 : ((s.spool.length : Int) == 20) = true := by simp; omega
   have hres : Hid (applyS s x = (s, 5)) := by unfold Hid applyS; rw [if_pos c6, if_pos c20]
   clear c6 c20
   go_wp2_with fail
   go_ret
   unfold AppS; rw [hres.out]
   exact ⟨rfl, HO.out.own, HA.out.mono HBS.out⟩
  ·have q20 : ((s.spool.length : Int) == 20) = false := by simp; omega
   have hres : Hid (applyS s x = (⟨s.boxes, s.spool ++ [x]⟩, 0)) := by unfold Hid applyS; rw [if_pos c6, if_neg c20]
   clear c6 c20
   have hrow : (rowS (.slice Gs s.spool.length cS) s.spool).At w2 base := HO.out.rows.1 _ (List.mem_cons_of_mem _ (List.mem_cons_self ..))
   have hRs : some R ≠ (Value.slice Gs s.spool.length cS).ownBlock := fun e => HO.out.off _ (List.mem_cons_of_mem _ (List.mem_cons_self ..)) e.symm
   have hda := ba (Below.drew (Below.refl w2.heap.size w2)) (.cells #[.int .i64 x.kind, .string ⟨x.box.toArray⟩, .int .i64 x.uid, .int .i64 x.flags, .string ⟨x.to.toArray⟩, .string ⟨x.text.toArray⟩] 80)
   have HRW : Hid (World.ownsRow (w2.drew.alloc (.cells #[.int .i64 x.kind, .string ⟨x.box.toArray⟩, .int .i64 x.uid, .int .i64 x.flags, .string ⟨x.to.toArray⟩, .string ⟨x.text.toArray⟩] 80)) base 80 6 (.slice Gs s.spool.length cS) s.spool.length (s.spool.flatMap entC)) := row_down hrow hda
   have HO2 := Lib.hid (HO.out.down hda)
   have n1 := moved r1 (ba (Below.refl w2.heap.size w2) (.cells #[.int .i64 x.kind, .string ⟨x.box.toArray⟩, .int .i64 x.uid, .int .i64 x.flags, .string ⟨x.to.toArray⟩, .string ⟨x.text.toArray⟩] 80)) (Nat.le_refl _)
   have HB2 := Lib.hid (bt HA.out hda)
   have hw2 := HA.out.size
   have hRz : R < w2.heap.size := by omega
   clear hrow hda
   go_wp2_with fail
   go_region_law (first
    | (refine step_append_lies _ (by rfl) _ _ _ (by rfl) base 80 e0 _ 6 72 Tryz.underlying71 EI.out EZ0.out EZ1.out EZ2.out rfl (by omega) (.slice Gs s.spool.length cS) s.spool.length (s.spool.flatMap entC) (by rfl) HRW.out
        ⟨w2.heap.size, 0, none⟩ 1 1 [.int .i64 x.kind, .string ⟨x.box.toArray⟩, .int .i64 x.uid, .int .i64 x.flags, .string ⟨x.to.toArray⟩, .string ⟨x.text.toArray⟩] (by rfl) (by rfl) (World.news_of_block (cs := #[.int .i64 x.kind, .string ⟨x.box.toArray⟩, .int .i64 x.uid, .int .i64 x.flags, .string ⟨x.to.toArray⟩, .string ⟨x.text.toArray⟩]) (t := 80) (fr := (0, 0)) (heap_alloc_new w2 _)) (by simp [Value.oneCell'])
        (by omega) (by unfold maxLen; omega) (by omega) (by simp; omega) (w2.heap.size + 1) (by simp) ?_
       intro g5 cap5 w5 hown5 hgrow5 hat5 hlt5
       have z1 := (hgrow5.cell_far ⟨R, 1, none⟩ (by simp; omega) hRs).trans (HO2.out.has.two.2.1)
       have zf1 := (hgrow5.frozen_far ⟨R, 1, none⟩ (by simp; omega) hRs).trans (HO2.out.has.two.2.2.2)))
   all_goals
    have HO5 := Lib.hid hown5; have HG5 := Lib.hid hgrow5; have HAT := Lib.hid hat5
    clear hown5 hgrow5 hat5
    go_wp2_with fail
    go_ret
    unfold AppS; rw [hres.out]
    refine ⟨rfl, own_spool HO2.out HG5.out HO5.out (by
     rcases HAT.out with e | e
     ·exact .inl e
     ·exact .inr (by rw [e]; simp)), ?_⟩
    exact (below_row (HB2.out.mono HBS.out) HBS.out HRW.out (Nat.le_refl _) HG5.out).setCell (p := ⟨R, 1, none⟩) hlow _
 ·have q6 : ((x.kind : Int) == 6) = false := by simp; omega
  rcases idx_dec (findB s.boxes x.box) with ⟨hfn, hfi⟩ | ⟨i, hfn, hfi⟩
  ·rw [hfi]
   have HFN := Lib.hid hfn
   clear hfn hfi
   by_cases c1 : x.kind = 1
   ·have q1 : ((x.kind : Int) == 1) = true := by simp; omega
    by_cases c5 : s.boxes.length = 5
    ·have q5 : ((s.boxes.length : Int) == 5) = true := by simp; omega
     have hres : Hid (applyS s x = (s, 5)) := by unfold Hid applyS; rw [if_neg c6, HFN.out]; simp only; rw [if_pos c1, if_pos c5]
     clear c1 c5 c6
     go_wp2_with fail
     go_ret
     unfold AppS; rw [hres.out]
     exact ⟨rfl, HO.out.own, HA.out.mono HBS.out⟩
    ·have q5 : ((s.boxes.length : Int) == 5) = false := by simp; omega
     have hres : Hid (applyS s x = (⟨s.boxes ++ [⟨x.box, 1, []⟩], s.spool⟩, 0)) := by unfold Hid applyS; rw [if_neg c6, HFN.out]; simp only; rw [if_pos c1, if_neg c5]
     clear c1 c5 c6
     have hrow : (rowB (.slice Gb s.boxes.length cb) qs).At w2 base := HO.out.rows.1 _ (List.mem_cons_self ..)
     have hrow2 : w2.ownsRow base 119 3 (.slice Gb s.boxes.length cb) s.boxes.length (bxcells qs) := by
      have e : s.boxes.length = qs.length := by rw [HO.out.boxes, List.length_map]
      rw [e] at hrow ⊢; exact hrow
     have hRs : some R ≠ (Value.slice Gb s.boxes.length cb).ownBlock := fun e => HO.out.off _ (List.mem_cons_self ..) e.symm
     have hda := ba (Below.drew (Below.refl w2.heap.size w2)) (.cells #[.string ⟨x.box.toArray⟩, .int .i64 1, .slice none 0 0] 119)
     have HRW : Hid (World.ownsRow (w2.drew.alloc (.cells #[.string ⟨x.box.toArray⟩, .int .i64 1, .slice none 0 0] 119)) base 119 3 (.slice Gb s.boxes.length cb) s.boxes.length (bxcells qs)) := row_down hrow2 hda
     have HO2 := Lib.hid (HO.out.down hda)
     have n0 := moved r0 (ba (Below.refl w2.heap.size w2) (.cells #[.string ⟨x.box.toArray⟩, .int .i64 1, .slice none 0 0] 119)) (Nat.le_refl _)
     have HB2 := Lib.hid (bt HA.out hda)
     have hw2 := HA.out.size
     have hRz : R < w2.heap.size := by omega
     clear hrow hrow2 hda
     go_wp2_with fail
     go_region_law (first
      | (refine step_append_lies _ (by rfl) _ _ _ (by rfl) base 119 b0 _ 3 48 Tryz.underlying70 BI.out BZ0.out BZ1.out BZ2.out rfl (by omega) (.slice Gb s.boxes.length cb) s.boxes.length (bxcells qs) (by rfl) HRW.out
          ⟨w2.heap.size, 0, none⟩ 1 1 [.string ⟨x.box.toArray⟩, .int .i64 1, .slice none 0 0] (by rfl) (by rfl) (World.news_of_block (cs := #[.string ⟨x.box.toArray⟩, .int .i64 1, .slice none 0 0]) (t := 119) (fr := (0, 0)) (heap_alloc_new w2 _)) (by simp [Value.oneCell'])
          (by omega) (by unfold maxLen; omega) (by omega) (by simp; omega) (w2.heap.size + 1) (by simp) ?_
         intro g5 cap5 w5 hown5 hgrow5 hat5 hlt5
         have z1 := (hgrow5.cell_far ⟨R, 0, none⟩ (by simp; omega) hRs).trans (HO2.out.has.two.1)
         have zf1 := (hgrow5.frozen_far ⟨R, 0, none⟩ (by simp; omega) hRs).trans (HO2.out.has.two.2.2.1)))
     all_goals
      have HO5 := Lib.hid hown5; have HG5 := Lib.hid hgrow5; have HAT := Lib.hid hat5
      clear hown5 hgrow5 hat5
      go_wp2_with fail
      go_ret
      unfold AppS; rw [hres.out]
      refine ⟨rfl, own_create2 HO2.out HG5.out HO5.out (by
       rcases HAT.out with e | e
       ·exact .inl e
       ·exact .inr (by rw [e]; simp)), ?_⟩
      exact (below_row (HB2.out.mono HBS.out) HBS.out HRW.out (Nat.le_refl _) HG5.out).setCell (p := ⟨R, 0, none⟩) hlow _
   ·have q1 : ((x.kind : Int) == 1) = false := by simp; omega
    have hres : Hid (applyS s x = (s, 7)) := by unfold Hid applyS; rw [if_neg c6, HFN.out]; simp only; rw [if_neg c1]
    clear c1 c6
    go_wp2_with fail
    go_ret
    unfold AppS; rw [hres.out]
    exact ⟨rfl, HO.out.own, HA.out.mono HBS.out⟩
  ·rw [hfi]
   obtain ⟨hi, hnm⟩ := findB_some hfn
   have hi1000 : i ≤ 5 := by omega
   have HFN := Lib.hid hfn
   clear hnm hfn hfi
   by_cases c1 : x.kind = 1
   ·have q1 : ((x.kind : Int) == 1) = true := by simp; omega
    have hres : Hid (applyS s x = (s, 10)) := by unfold Hid applyS; rw [if_neg c6, HFN.out]; simp only; rw [if_pos c1]
    clear c1 c6
    go_wp2_with fail
    go_ret
    unfold AppS; rw [hres.out]
    exact ⟨rfl, HO.out.own, HA.out.mono HBS.out⟩
   have q1 : ((x.kind : Int) == 1) = false := by simp; omega
   by_cases c2 : x.kind = 2
   ·have q2 : ((x.kind : Int) == 2) = true := by simp; omega
    have hadd := Lib.hid (add_any s i x.flags x.text base R w2 HO.out.own HG.out hi hfl htx)
    have hres : Hid (applyS s x = (match addS s i x.flags x.text with | some t => (t, 0) | none => (s, 5))) := by unfold Hid applyS; rw [if_neg c6, HFN.out]; simp only; rw [if_neg c1, if_pos c2]; rfl
    clear c1 c2 c6
    go_wp2_with fail
    refine hadd.out.mono ?_
    rintro e w3 ⟨hm, hb3⟩
    have HB3 : Hid (Below base w w3) := (HA.out.mono HBS.out).trans hb3
    cases hs : addS s i x.flags x.text with
    | none =>
     rw [hs] at hm
     obtain ⟨rfl, ho3⟩ := hm
     have HO3 := Lib.hid ho3; have HS := Lib.hid hs
     clear hs ho3 hb3 r0 r1 rf0 rf1 x0 x1 x2 x3 x4 x5
     go_wp2_with fail
     go_ret
     unfold AppS; rw [hres.out, HS.out]
     exact ⟨rfl, HO3.out, HB3.out⟩
    | some t =>
     rw [hs] at hm
     obtain ⟨rfl, ho3⟩ := hm
     have HO3 := Lib.hid ho3; have HS := Lib.hid hs
     clear hs ho3 hb3 r0 r1 rf0 rf1 x0 x1 x2 x3 x4 x5
     go_wp2_with fail
     go_ret
     unfold AppS; rw [hres.out, HS.out]
     exact ⟨rfl, HO3.out, HB3.out⟩
   have q2 : ((x.kind : Int) == 2) = false := by simp; omega
   obtain ⟨b, hb⟩ : ∃ b, s.boxes[i]? = some b := ⟨_, List.getElem?_eq_getElem hi⟩
   obtain ⟨g, cap, G, c, hvB, hgb, hgw, _, hq, hrow, hga, hRa, hRg, hrowB, y0, y1, y2, yf2⟩ := HO.out.box hb
   cases hvB
   have HB := Lib.hid hb; have HQ := Lib.hid hq; have HROW := Lib.hid hrow
   have hml : b.mails.length ≤ 30 := (HG.out.ok b (List.mem_of_getElem? hb)).2.2.2.1
   clear hb hq hrow hrowB
   have hRz : R < w2.heap.size := by have := HA.out.size; omega
   have hib : i < s.boxes.length := hi
   by_cases c4 : x.kind = 4
   ·have q4 : ((x.kind : Int) == 4) = true := by simp; omega
    have hres : Hid (applyS s x = (⟨s.boxes.set i ⟨b.name, b.next, b.mails.filter keep⟩, s.spool⟩, 0)) := by
     unfold Hid applyS; rw [if_neg c6, HFN.out]; simp only; rw [if_neg c1, if_neg c2, HB.out]; simp only; rw [if_pos c4, keep_eq]
    have hfm : ∀ m ∈ b.mails, m.flags ≤ 31 := by
     intro m hm
     obtain ⟨k, hk, rfl⟩ := List.getElem_of_mem hm
     exact (mails_at b.next b.mails 0 (HG.out.ok b (List.mem_of_getElem? HB.out)).2.2.2.2 k hk).2.2.1
    have hdl := Lib.hid (delete_any (.slice G b.mails.length c) b.mails base w2.drew (row_down HROW.out (Below.drew (Below.refl w2.heap.size w2))) (by omega) hfm)
    have HOd := Lib.hid (HO.out.down (Below.drew (Below.refl w2.heap.size w2)))
    have HAd := Lib.hid (Below.drew (HA.out.mono HBS.out))
    clear c1 c2 c4 c6 hfm
    go_wp2_with fail
    go_region_with (go_at_call 92; refine hdl.out.mono ?_; rintro e w3 ⟨⟨G3, c3, rfl, hown3, hbl3⟩, hgr3⟩; have z0 := (hgr3.cell_far ⟨R, 0, none⟩ (by show R < w2.heap.size; omega) hRa).trans r0; have z2 := (hgr3.cell_far ⟨g, i * 3 + 2, none⟩ (by show g < w2.heap.size; omega) hga).trans y2; have zf2 := (hgr3.frozen_far ⟨g, i * 3 + 2, none⟩ (by show g < w2.heap.size; omega) hga).trans yf2)
    all_goals
     have HO3 := Lib.hid hown3; have HG3 := Lib.hid hgr3; have HBL := Lib.hid hbl3
     clear hown3 hgr3 hbl3
     go_wp2_with fail
     go_ret
     unfold AppS; rw [hres.out]
     exact ⟨rfl, own_mails HOd.out HQ.out HG3.out HO3.out HBL.out hRa hRg, (below_row HAd.out HBS.out (row_down HROW.out (Below.drew (Below.refl w2.heap.size w2))) (Nat.le_refl _) HG3.out).setCell (p := ⟨g, i * 3 + 2, none⟩) hgb _⟩
   have q4 : ((x.kind : Int) == 4) = false := by simp; omega
   have hU := Lib.hid (indexU_any (.slice G b.mails.length c) b.mails (fun b => base ≤ b) N x.uid w2 (SAt.of_row HROW.out (fun b h => h)) (by omega) x2)
   have hsat := HO.out.sat
   rcases idx_dec (b.mails.findIdx? (uidB x.uid)) with ⟨hkn, hki⟩ | ⟨k, hkn, hki⟩
   ·rw [hki] at hU
    have hres : Hid (applyS s x = (s, 7)) := by
     unfold Hid applyS; rw [if_neg c6, HFN.out]; simp only; rw [if_neg c1, if_neg c2, HB.out]; simp only; rw [if_neg c4, show (b.mails.findIdx? fun m => m.uid == x.uid) = none from hkn]
    clear c1 c2 c4 c6 hkn hki hsat
    go_wp2_with fail
    refine hU.out.mono ?_
    rintro e w3 ⟨rfl, hb3⟩
    have HO3 := Lib.hid (HO.out.own.down hb3); have HA3 := Lib.hid (bt HA.out hb3)
    clear hb3 r0 r1 rf0 rf1 x0 x1 x2 x3 x4 x5 y0 y1 y2 yf2
    go_wp2_with fail
    go_ret
    unfold AppS; rw [hres.out]
    exact ⟨rfl, HO3.out, HA3.out.mono HBS.out⟩
   ·rw [hki] at hU
    obtain ⟨hk, _⟩ := List.findIdx?_eq_some_iff_getElem.1 hkn
    obtain ⟨m, hm⟩ : ∃ m, b.mails[k]? = some m := ⟨_, List.getElem?_eq_getElem hk⟩
    have HM := Lib.hid hm; have HK := Lib.hid hkn
    obtain ⟨gm, cm, hG, hgm1, hgm2⟩ := World.ownsRow.form HROW.out (show 0 < (rowM (b, .slice G b.mails.length c)).n by show 0 < b.mails.length; omega)
    cases hG
    have hk30 : k ≤ 30 := by omega
    clear hm hkn hki
    by_cases c3 : x.kind = 3
    ·have q3 : ((x.kind : Int) == 3) = true := by simp; omega
     have hres : Hid (applyS s x = (⟨s.boxes.set i ⟨b.name, b.next, b.mails.set k ⟨m.uid, x.flags, m.text⟩⟩, s.spool⟩, 0)) := by
      unfold Hid applyS; rw [if_neg c6, HFN.out]; simp only; rw [if_neg c1, if_neg c2, HB.out]; simp only; rw [if_neg c4, show (b.mails.findIdx? fun m => m.uid == x.uid) = some k from HK.out]; simp only; rw [HM.out]; simp only; rw [if_pos c3]
     clear c1 c2 c3 c4 c6 hsat
     go_wp2_with fail
     refine hU.out.mono ?_
     rintro e w3 ⟨rfl, hb3⟩
     have HO3 := Lib.hid (HO.out.down hb3); have HA3 := Lib.hid (bt HA.out hb3)
     have hrow3 := row_down HROW.out hb3
     obtain ⟨m0, m1, m2⟩ := mail_own hrow3 k m HM.out hk
     have mf := World.ownsRow.frozenAt hrow3 (k * 3 + 1)
     obtain ⟨X0, X1, X2, X3, X4, X5⟩ := (HX.out.down hb3).six
     obtain ⟨R0, -, -, -⟩ := HO3.out.has.two
     have Y2 := moved y2 hb3 (Nat.le_refl _)
     have hgm3 : gm < w3.heap.size := Nat.lt_of_lt_of_le hgm2 hb3.size
     have hgr3 : g < w3.heap.size := Nat.lt_of_lt_of_le hgw hb3.size
     clear hb3 hrow3 r0 r1 rf0 rf1 x0 x1 x2 x3 x4 x5 y0 y1 y2 yf2
     go_wp2_with fail
     go_still_tail 13, (by kernel_rfl)
     change wpList _ _ _ _ _ w3.drew
     go_wp2_with fail
     go_ret
     unfold AppS; rw [hres.out]
     exact ⟨rfl, (own_flag HO3.out HQ.out HM.out (fun e => hRa (by rw [e]; rfl))).down (Below.drew (Below.refl _ _)), Below.drew ((HA3.out.mono HBS.out).setCell (p := ⟨gm, k * 3 + 1, none⟩) hgm1 _)⟩
    have q3 : ((x.kind : Int) == 3) = false := by simp; omega
    have hF2 : Hid (∀ w', Below w2.heap.size w2 w' → Calls Tryz.prog 84 #[.slice (some ⟨g, 0, none⟩) s.boxes.length cb, .string ⟨x.to.toArray⟩] w' fun e w'' => e = .returned (.int .i64 (idx (findB s.boxes x.to))) ∧ Below w'.heap.size w' w'') :=
     fun w' hb => find_any _ s.boxes _ x.to w' (hsat.down hb) (by omega)
    have hmo := mails_at b.next b.mails 0 (HG.out.ok b (List.mem_of_getElem? HB.out)).2.2.2.2 k hk
    have hmk : b.mails[k] = m := by have := HM.out; rw [List.getElem?_eq_getElem hk] at this; exact Option.some.inj this
    rw [hmk] at hmo
    obtain ⟨_, _, hmf, hmt⟩ := hmo
    rcases idx_dec (findB s.boxes x.to) with ⟨hjn, hji⟩ | ⟨j, hjn, hji⟩
    ·rw [hji] at hF2
     have hres : Hid (applyS s x = (s, 7)) := by
      unfold Hid applyS; rw [if_neg c6, HFN.out]; simp only; rw [if_neg c1, if_neg c2, HB.out]; simp only; rw [if_neg c4, show (b.mails.findIdx? fun m => m.uid == x.uid) = some k from HK.out]; simp only; rw [HM.out]; simp only; rw [if_neg c3, hjn]
     clear c1 c2 c3 c4 c6 hsat hmk hjn hji
     go_wp2_with fail
     refine hU.out.mono ?_
     rintro e w3 ⟨rfl, hb3⟩
     have HO3 := Lib.hid (HO.out.down hb3); have HA3 := Lib.hid (bt HA.out hb3)
     obtain ⟨X0, X1, X2, X3, X4, X5⟩ := (HX.out.down hb3).six
     obtain ⟨R0, -, -, -⟩ := HO3.out.has.two
     have HD3 := Lib.hid hb3
     clear hb3 r0 r1 rf0 rf1 x0 x1 x2 x3 x4 x5 y0 y1 y2 yf2
     go_wp2_with fail
     go_still_tail 6, (by kernel_rfl)
     change wpList _ _ _ _ _ w3.drew
     have hdr := Below.drew (Below.refl w3.heap.size w3)
     go_wp2_with fail
     refine (hF2.out _ (bt HD3.out hdr)).mono ?_
     rintro e w4 ⟨rfl, hb4⟩
     have HO4 := Lib.hid (HO3.out.own.down (bt hdr hb4)); have HA4 := Lib.hid (bt HA3.out (bt hdr hb4))
     clear hb4 hdr R0 X0 X1 X2 X3 X4 X5
     go_wp2_with fail
     go_ret
     unfold AppS; rw [hres.out]
     exact ⟨rfl, HO4.out, HA4.out.mono HBS.out⟩
    ·rw [hji] at hF2
     obtain ⟨hjl, _⟩ := findB_some hjn
     have hres : Hid (applyS s x = (match addS s j m.flags m.text with | some t => (t, 0) | none => (s, 5))) := by
      unfold Hid applyS; rw [if_neg c6, HFN.out]; simp only; rw [if_neg c1, if_neg c2, HB.out]; simp only; rw [if_neg c4, show (b.mails.findIdx? fun m => m.uid == x.uid) = some k from HK.out]; simp only; rw [HM.out]; simp only; rw [if_neg c3, hjn]; rfl
     have hadd : Hid (∀ w', OwnS w' base R s → Calls Tryz.prog 91 #[.pointer (some ⟨R, 0, none⟩), .int .i64 j, .int .i64 m.flags, .string ⟨m.text.toArray⟩] w' (AddPost s j m.flags m.text base R w')) := fun w' h => add_any s j m.flags m.text base R w' h HG.out hjl hmf hmt
     clear c1 c2 c3 c4 c6 hsat hmk hjn hji
     go_wp2_with fail
     refine hU.out.mono ?_
     rintro e w3 ⟨rfl, hb3⟩
     have HO3 := Lib.hid (HO.out.down hb3); have HA3 := Lib.hid (bt HA.out hb3)
     obtain ⟨X0, X1, X2, X3, X4, X5⟩ := (HX.out.down hb3).six
     obtain ⟨R0, -, -, -⟩ := HO3.out.has.two
     have HD3 := Lib.hid hb3
     clear hb3 r0 r1 rf0 rf1 x0 x1 x2 x3 x4 x5
     go_wp2_with fail
     go_still_tail 6, (by kernel_rfl)
     change wpList _ _ _ _ _ w3.drew
     have hdr := Below.drew (Below.refl w3.heap.size w3)
     go_wp2_with fail
     refine (hF2.out _ (bt HD3.out hdr)).mono ?_
     rintro e w4 ⟨rfl, hb4⟩
     have hb24 := bt HD3.out (bt hdr hb4)
     have HO4 := Lib.hid (HO3.out.down (bt hdr hb4)); have HA4 := Lib.hid (bt HA3.out (bt hdr hb4))
     have hrow4 := row_down HROW.out hb24
     obtain ⟨m0, m1, m2⟩ := mail_own hrow4 k m HM.out hk
     obtain ⟨S0, -, -, -⟩ := HO4.out.has.two
     have Y2 := moved y2 hb24 (Nat.le_refl _)
     have hgm4 : gm < w4.heap.size := Nat.lt_of_lt_of_le hgm2 hb24.size
     have hgr4 : g < w4.heap.size := Nat.lt_of_lt_of_le hgw hb24.size
     clear hb4 hdr R0 X0 X1 X2 X3 X4 X5 hb24 hrow4 y0 y1 y2 yf2
     go_wp2_with fail
     have hA5 := ba (Below.refl w4.heap.size w4) (.cells #[.int .i64 m.uid, .int .i64 m.flags, .string ⟨m.text.toArray⟩] 133)
     refine (hadd.out _ (HO4.out.own.down hA5)).mono ?_
     rintro e w5 ⟨hmm, hb5⟩
     have HB5 : Hid (Below base w w5) := ((bt HA4.out hA5).mono HBS.out).trans hb5
     cases hs : addS s j m.flags m.text with
     | none =>
      rw [hs] at hmm
      obtain ⟨rfl, ho5⟩ := hmm
      have HO5 := Lib.hid ho5; have HS := Lib.hid hs
      clear hs ho5 hb5 hA5 m0 m1 m2 S0 Y2
      go_wp2_with fail
      go_ret
      unfold AppS; rw [hres.out, HS.out]
      exact ⟨rfl, HO5.out, HB5.out⟩
     | some t =>
      rw [hs] at hmm
      obtain ⟨rfl, ho5⟩ := hmm
      have HO5 := Lib.hid ho5; have HS := Lib.hid hs
      clear hs ho5 hb5 hA5 m0 m1 m2 S0 Y2
      go_wp2_with fail
      go_ret
      unfold AppS; rw [hres.out, HS.out]
      exact ⟨rfl, HO5.out, HB5.out⟩
def AllPost (r : St × Int) (w : World) (e : Ending) (w' : World) : Prop :=
 (if r.2 = 0 then ∃ G1 c1 G2 c2, e = .returned (.tuple #[.agg #[.slice G1 r.1.boxes.length c1, .slice G2 r.1.spool.length c2], .int .i64 0]) ∧ OwnV w' w.heap.size (.slice G1 r.1.boxes.length c1) (.slice G2 r.1.spool.length c2) r.1
  else e = .returned (.tuple #[.agg #[.slice none 0 0, .slice none 0 0], .int .i64 r.2])) ∧ Below w.heap.size w w'
theorem all_end {R : Nat} {r : St × Int} {G1 G2 : Option Addr} {c1 c2 : Nat} {a : Act} {W w : World} (ht : a.tmps.getD 4 undef = .pointer (some ⟨R, 0, none⟩)) (ht5 : a.tmps.getD 5 undef = .int .i64 0) (hd : a.defers = []) (hr : r.2 = 0)
    (h : Has W R [.slice G1 r.1.boxes.length c1, .slice G2 r.1.spool.length c2]) (he : OwnV W w.heap.size (.slice G1 r.1.boxes.length c1) (.slice G2 r.1.spool.length c2) r.1) (hb : Below w.heap.size w W) : bodyPost Tryz.prog Tryz.f28 (AllPost r w) .ret a W := by
 obtain ⟨c0, c1', _, _⟩ := h.two
 refine bodyPost_ret (v := .tuple #[.agg #[.slice G1 r.1.boxes.length c1, .slice G2 r.1.spool.length c2], .int .i64 0]) ?_ hd ⟨by rw [if_pos hr]; exact ⟨_, _, _, _, rfl, he⟩, hb⟩
 have ht' : a.tmps[4]?.getD undef = .pointer (some ⟨R, 0, none⟩) := by simpa using ht
 have ht5' : a.tmps[5]?.getD undef = .int .i64 0 := by simpa using ht5
 simp [results, Tryz.results28, go_sem, ht', ht5', c0, c1']
theorem all_end0 {R : Nat} {r : St × Int} {a : Act} {W w : World} (ht : a.tmps.getD 4 undef = .pointer (some ⟨R, 0, none⟩)) (ht5 : a.tmps.getD 5 undef = .int .i64 r.2) (hd : a.defers = []) (hr : r.2 ≠ 0)
    (h : Has W R [.slice none 0 0, .slice none 0 0]) (hb : Below w.heap.size w W) : bodyPost Tryz.prog Tryz.f28 (AllPost r w) .ret a W := by
 obtain ⟨c0, c1', _, _⟩ := h.two
 refine bodyPost_ret (v := .tuple #[.agg #[.slice none 0 0, .slice none 0 0], .int .i64 r.2]) ?_ hd ⟨by rw [if_neg hr], hb⟩
 have ht' : a.tmps[4]?.getD undef = .pointer (some ⟨R, 0, none⟩) := by simpa using ht
 have ht5' : a.tmps[5]?.getD undef = .int .i64 r.2 := by simpa using ht5
 simp [results, Tryz.results28, go_sem, ht', ht5', c0, c1']
theorem OwnV.else' {w : World} {base R i : Nat} {vB vS u : Value} {s : St} (h : OwnV w base vB vS s) (hR : R < base) : OwnV (w.setCell ⟨R, i, none⟩ u) base vB vS s := by
 obtain ⟨qs, h1, h2⟩ := h
 exact ⟨qs, h1, h2.else' (Go.Lib.grownBy_setB (World.grownBy.refl w (some R)) i u) (offR_low h2 hR)⟩
theorem OwnV.base {w : World} {base base' : Nat} {vB vS : Value} {s : St} (h : OwnV w base vB vS s) (hb : base' ≤ base) : OwnV w base' vB vS s := by
 obtain ⟨qs, h1, h2⟩ := h
 exact ⟨qs, h1, fun r hr => row_base hb (h2.1 r hr), h2.2⟩
theorem OwnV.sat {w : World} {base : Nat} {vB vS : Value} {s : St} {F : Dom} (h : OwnV w base vB vS s) (hF : ∀ b, base ≤ b → F b) : SAt cBox w F vB s.boxes ∧ SAt cEnt w F vS s.spool := by
 obtain ⟨qs, h1, h2⟩ := h
 rw [h1]
 exact ⟨h2.boxes hF, h2.spool hF⟩
theorem OwnV.var {w : World} {base : Nat} {vB vS : Value} {s : St} (h : OwnV w base vB vS s) (hb : base ≤ w.heap.size) (t : TypeId) : OwnS (w.alloc (.cells #[vB, vS] t)) base w.heap.size s := by
 obtain ⟨qs, h1, h2⟩ := h
 exact ⟨qs, vB, vS, h1, Has.alloc w [vB, vS] t, hb, h2.down (ba (Below.refl _ _) _), fun r hr e => by have := (World.ownsRow.lt (h2.1 r hr) _ e).2; omega⟩
theorem all_any (s : St) (l : List Ent) (vB vS v : Value) (F : Dom) (m : Int) (w : World) (hB : SAt cBox w F vB s.boxes) (hS : SAt cEnt w F vS s.spool) (hg : GoodS s) (hL : SAt cEnt w F v l) (hl : l.length ≤ 10) (hsm : ∀ x ∈ l, Small x)
    (hm : w.cell? ⟨6, 0, none⟩ = some (.int .i64 m)) : Calls Tryz.prog 28 #[.agg #[vB, vS], v] w (AllPost (allS s l) w) := by
 obtain ⟨Gb, cb, rfl, hcb⟩ := hB.form
 obtain ⟨Gs, cS, rfl, hcs⟩ := hS.form
 obtain ⟨Gl, cl, rfl, hcl⟩ := hL.form
 have hA := ba (ba (Below.refl w.heap.size w) (.cells #[.slice Gb s.boxes.length cb, .slice Gs s.spool.length cS] 73)) (.cells #[.slice none 0 0, .slice none 0 0] 73)
 have h1 := (Has.alloc w [.slice Gb s.boxes.length cb, .slice Gs s.spool.length cS] 73).down (ba (Below.refl _ _) (.cells #[.slice none 0 0, .slice none 0 0] 73))
 have h2 := Has.alloc (w.alloc (.cells #[.slice Gb s.boxes.length cb, .slice Gs s.spool.length cS] 73)) [.slice none 0 0, .slice none 0 0] 73
 simp only [World.size_alloc] at h2
 have HA := Lib.hid hA; have H1 := Lib.hid h1; have H2 := Lib.hid h2; have HB := Lib.hid hB; have HS := Lib.hid hS; have HL := Lib.hid hL; have HG := Lib.hid hg; have HSM := Lib.hid hsm; have HM := Lib.hid hm
 have hbl := hg.boxes; have hsl := hg.spool
 clear hA h1 h2 hB hS hL hg hsm hm
 go_enter Tryz.func28, Tryz.ntmps28
 go_wp2_with fail
 refine (checkS_any s _ _ F m _ (HB.out.down HA.out) (HS.out.down HA.out) HG.out (moved HM.out HA.out (Nat.le_refl _))).mono ?_
 rintro e w1 ⟨rfl, hb1⟩
 have HA1 := Lib.hid (bt HA.out hb1); have HN1 := Lib.hid (H1.out.down hb1); have HR1 := Lib.hid (H2.out.down hb1)
 obtain ⟨n0, n1, -, -⟩ := HN1.out.two
 have hz1 := HR1.out.2.2
 clear hb1 H1 H2 HA
 go_wp2_with fail
 refine (own_any s _ _ F w1 (HB.out.down HA1.out) (HS.out.down HA1.out) (by omega) (by omega) (fun b hb => by have := (HG.out.ok b hb).2.2.2.1; omega)).mono ?_
 rintro e w2 ⟨⟨G1, c1, G2, c2, rfl, hv⟩, hb2⟩
 have hz2 := hb2.size
 have hown := hv.var hz2 73
 have hA2 := ba (Below.refl w2.heap.size w2) (.cells #[.slice G1 s.boxes.length c1, .slice G2 s.spool.length c2] 73)
 have HO2 := Lib.hid hown; have HA2 := Lib.hid (bt (bt HA1.out hb2) hA2); have HR2 := Lib.hid ((HR1.out.down hb2).down hA2)
 obtain ⟨base, hbase⟩ : ∃ base, base = w1.heap.size := ⟨_, rfl⟩
 rw [← hbase] at HO2 hz1 hz2
 clear hv hb2 hown hA2 n0 n1 HA1 HN1 HR1 HB HS hbase
 go_wp2_with fail
 obtain ⟨R7, hR7⟩ : ∃ R7, R7 = w2.heap.size := ⟨_, rfl⟩
 rw [← hR7] at HO2 ⊢
 obtain ⟨W2, hW2⟩ : ∃ W2, W2 = w2.alloc (.cells #[.slice G1 s.boxes.length c1, .slice G2 s.spool.length c2] 73) := ⟨_, rfl⟩
 rw [← hW2] at HO2 HA2 HR2 ⊢
 clear hR7 hW2 hz2
 go_loopw [26] (fun i wr => ∃ (j : Nat) (t : St), j ≤ l.length ∧ i = .int .i64 j ∧ OwnS wr base R7 t ∧ GoodS t ∧ allS s l = allS t (l.drop j) ∧ Has wr (w.heap.size + 1) [.slice none 0 0, .slice none 0 0] ∧ Below w.heap.size w wr) (fun i _ => l.length - (intOf i).toNat)
 case atStart => exact ⟨0, s, Nat.zero_le _, rfl, HO2.out, HG.out, rfl, HR2.out, HA2.out⟩
 case round =>
  obtain ⟨j, t, hj, rfl, hown, hgt, hall, hR, hb⟩ := hrel
  clear HO2 HR2 HA2
  have HALL := Lib.hid hall; have HGT := Lib.hid hgt; have HOW := Lib.hid hown; have HR := Lib.hid hR; have HBW := Lib.hid hb
  clear hall hgt hown hR
  by_cases hlt : j < l.length
  ·obtain ⟨g, off, rfl, hF, hgw, c0, c1', c2', c3, c4, c5⟩ := ent_get HL.out hb j hlt
   have hxs := HSM.out l[j] (List.getElem_mem _)
   have hdr : Hid (l.drop j = l[j] :: l.drop (j + 1)) := List.drop_eq_getElem_cons hlt
   have hgr : g < wr.heap.size := Nat.lt_of_lt_of_le hgw hb.size
   generalize l[j] = x at c0 c1' c2' c3 c4 c5 hxs hdr
   obtain ⟨f1, f2, f3, f4, f5, f6⟩ := hxs
   have hA3 := ba (Below.refl wr.heap.size wr) (.cells #[.int .i64 x.kind, .string ⟨x.box.toArray⟩, .int .i64 x.uid, .int .i64 x.flags, .string ⟨x.to.toArray⟩, .string ⟨x.text.toArray⟩] 80)
   have HX := Lib.hid (Has.alloc wr [.int .i64 x.kind, .string ⟨x.box.toArray⟩, .int .i64 x.uid, .int .i64 x.flags, .string ⟨x.to.toArray⟩, .string ⟨x.text.toArray⟩] 80)
   have HB3 := Lib.hid (bt hb hA3); have HR3 := Lib.hid (HR.out.down hA3); have HO3 := Lib.hid (HOW.out.down hA3)
   have hfm := Lib.hid (form_any x m _ (by omega) (by omega) (by omega) (by omega) (by omega) (by omega) (moved HM.out HB3.out (Nat.le_refl _)))
   clear hA3 hb HR HOW HBW f1 f2 f3 f4 f5 f6
   go_wp2_with fail
   refine hfm.out.mono ?_
   rintro e w3 ⟨rfl, hb3⟩
   have HB4 := Lib.hid (bt HB3.out hb3); have HR4 := Lib.hid (HR3.out.down hb3); have HO4 := Lib.hid (HO3.out.down hb3)
   have hx4 := HX.out.down hb3
   obtain ⟨x0, x1, x2, x3, x4, x5⟩ := hx4.six
   clear hb3 c0 c1' c2' c3 c4 c5 HX hx4 HB3 HR3 HO3 hfm
   by_cases hf : formV x = 0
   ·rw [hf]
    have hap := Lib.hid (apply_any t x base R7 w3 HO4.out HGT.out hf)
    have hgd := Lib.hid (applyS_good HGT.out hf)
    obtain ⟨ar, har⟩ : ∃ ar, ar = applyS t x := ⟨_, rfl⟩
    have HAR := Lib.hid har; have HF0 := Lib.hid hf
    clear hf har
    go_wp2_with fail
    refine hap.out.mono ?_
    rintro e w4 ⟨rfl, hown4, hb4⟩
    rw [← HAR.out] at hown4 ⊢
    have hgd2 := hgd.out
    rw [← HAR.out] at hgd2
    have HO5 := Lib.hid hown4; have HG5 := Lib.hid hgd2
    have HR5 := Lib.hid (HR4.out.below hb4 (by omega)); have HB5 := Lib.hid (HB4.out.trans (hb4.mono (by omega)))
    clear hown4 hgd2 hb4 x0 x1 x2 x3 x4 x5 hap hgd
    by_cases hc : ar.2 = 0
    ·rw [hc]
     have hall2 : Hid (allS s l = allS ar.1 (l.drop (j + 1))) := by
      unfold Hid
      rw [HALL.out, hdr.out]
      show (if formV x ≠ 0 then _ else if (applyS t x).2 ≠ 0 then _ else _) = _
      rw [if_neg (by rw [HF0.out]; decide), if_neg (by rw [← HAR.out, hc]; decide), ← HAR.out]
     clear hc
     go_wp2_with fail
     go_roundw
     case rel => exact ⟨j + 1, ar.1, hlt, by go_num, HO5.out, HG5.out, hall2.out, HR5.out, HB5.out⟩
     case measure => simp [intOf]; omega
    ·have hall2 : Hid (allS s l = (t, ar.2)) := by
      unfold Hid
      rw [HALL.out, hdr.out]
      show (if formV x ≠ 0 then _ else if (applyS t x).2 ≠ 0 then _ else _) = _
      rw [if_neg (by rw [HF0.out]; decide), if_pos (by rw [← HAR.out]; exact hc), ← HAR.out]
     obtain ⟨cc, hcc⟩ : ∃ cc, cc = ar.2 := ⟨_, rfl⟩
     rw [← hcc] at hc hall2 ⊢
     have q : (cc != 0) = true := by simpa using hc
     have q' : (cc == 0) = false := by simpa using hc
     obtain ⟨d0, d1, g0, g1⟩ := HR5.out.two
     have hz5 := HR5.out.2.2
     have HC := Lib.hid hc
     clear hc hcc
     go_wp2_with fail
     rw [hall2.out]
     exact all_end0 (R := w.heap.size + 1) rfl rfl rfl HC.out ((HR5.out.set' (i := 0) (.slice none 0 0) (by simp)).set' (i := 1) (.slice none 0 0) (by simp)) ((HB5.out.setCell (p := ⟨w.heap.size + 1, 0, none⟩) (by show w.heap.size ≤ w.heap.size + 1; omega) _).setCell (p := ⟨w.heap.size + 1, 1, none⟩) (by show w.heap.size ≤ w.heap.size + 1; omega) _)
   ·have hall2 : Hid (allS s l = (t, formV x)) := by
     unfold Hid
     rw [HALL.out, hdr.out]
     show (if formV x ≠ 0 then _ else if (applyS t x).2 ≠ 0 then _ else _) = _
     rw [if_pos hf]
    obtain ⟨cc, hcc⟩ : ∃ cc, cc = formV x := ⟨_, rfl⟩
    rw [← hcc] at hf hall2 ⊢
    have q : (cc != 0) = true := by simpa using hf
    have q' : (cc == 0) = false := by simpa using hf
    obtain ⟨d0, d1, g0, g1⟩ := HR4.out.two
    have hz5 := HR4.out.2.2
    have HC := Lib.hid hf
    clear hf hcc x0 x1 x2 x3 x4 x5
    go_wp2_with fail
    rw [hall2.out]
    exact all_end0 (R := w.heap.size + 1) rfl rfl rfl HC.out ((HR4.out.set' (i := 0) (.slice none 0 0) (by simp)).set' (i := 1) (.slice none 0 0) (by simp)) ((HB4.out.setCell (p := ⟨w.heap.size + 1, 0, none⟩) (by show w.heap.size ≤ w.heap.size + 1; omega) _).setCell (p := ⟨w.heap.size + 1, 1, none⟩) (by show w.heap.size ≤ w.heap.size + 1; omega) _)
  ·obtain rfl : j = l.length := by omega
   obtain ⟨qs, vB7, vS7, ho⟩ := HOW.out.opn
   obtain ⟨⟨G7, c7, rfl⟩, G8, c8, rfl⟩ := ho.form
   obtain ⟨r0, r1, -, -⟩ := ho.has.two
   have hall2 : Hid (allS s l = (t, 0)) := by
    unfold Hid; rw [HALL.out, List.drop_length]; rfl
   have hOw := Lib.hid (own_any t _ _ (fun b => base ≤ b) wr ho.sat (ho.rows.spool (fun b h => h)) (by have := HGT.out.boxes; omega) (by have := HGT.out.spool; omega) (fun b hb => by have := (HGT.out.ok b hb).2.2.2.1; omega))
   have hzr := HR.out.2.2
   clear ho hb HALL
   go_wp2_with fail
   refine hOw.out.mono ?_
   rintro e w3 ⟨⟨G9, c9, G10, c10, rfl, hv⟩, hb3⟩
   have HR3 := Lib.hid (HR.out.down hb3); have HB3 := Lib.hid (bt HBW.out hb3); have HV := Lib.hid hv
   obtain ⟨d0, d1, g0, g1⟩ := HR3.out.two
   have hz3 := HR3.out.2.2
   clear hb3 hv r0 r1 HR HBW hOw HOW
   go_wp2_with fail
   rw [hall2.out]
   exact all_end (R := w.heap.size + 1) (r := (t, 0)) rfl rfl rfl rfl ((HR3.out.set' (i := 0) _ (by simp)).set' (i := 1) _ (by simp)) (((HV.out.else' (by omega)).else' (by omega)).base (by omega)) ((HB3.out.setCell (p := ⟨w.heap.size + 1, 0, none⟩) (by show w.heap.size ≤ w.heap.size + 1; omega) _).setCell (p := ⟨w.heap.size + 1, 1, none⟩) (by show w.heap.size ≤ w.heap.size + 1; omega) _)
def ApPost (r : St × Int) (w : World) (e : Ending) (w' : World) : Prop :=
 (if r.2 = 0 then ∃ G1 c1 G2 c2, e = .returned (.tuple #[.agg #[.slice G1 r.1.boxes.length c1, .slice G2 r.1.spool.length c2], .int .i64 0]) ∧ OwnV w' w.heap.size (.slice G1 r.1.boxes.length c1) (.slice G2 r.1.spool.length c2) r.1
  else e = .returned (.tuple #[.agg #[.slice none 0 0, .slice none 0 0], .int .i64 r.2])) ∧ Below w.heap.size w w'
theorem ap_end {R : Nat} {r : St × Int} {G1 G2 : Option Addr} {c1 c2 : Nat} {a : Act} {W w : World} (ht : a.tmps.getD 4 undef = .pointer (some ⟨R, 0, none⟩)) (ht5 : a.tmps.getD 5 undef = .int .i64 0) (hd : a.defers = []) (hr : r.2 = 0)
    (h : Has W R [.slice G1 r.1.boxes.length c1, .slice G2 r.1.spool.length c2]) (he : OwnV W w.heap.size (.slice G1 r.1.boxes.length c1) (.slice G2 r.1.spool.length c2) r.1) (hb : Below w.heap.size w W) : bodyPost Tryz.prog Tryz.f31 (ApPost r w) .ret a W := by
 obtain ⟨c0, c1', _, _⟩ := h.two
 refine bodyPost_ret (v := .tuple #[.agg #[.slice G1 r.1.boxes.length c1, .slice G2 r.1.spool.length c2], .int .i64 0]) ?_ hd ⟨by rw [if_pos hr]; exact ⟨_, _, _, _, rfl, he⟩, hb⟩
 have ht' : a.tmps[4]?.getD undef = .pointer (some ⟨R, 0, none⟩) := by simpa using ht
 have ht5' : a.tmps[5]?.getD undef = .int .i64 0 := by simpa using ht5
 simp [results, Tryz.results31, go_sem, ht', ht5', c0, c1']
theorem ap_end0 {R : Nat} {r : St × Int} {a : Act} {W w : World} (ht : a.tmps.getD 4 undef = .pointer (some ⟨R, 0, none⟩)) (ht5 : a.tmps.getD 5 undef = .int .i64 r.2) (hd : a.defers = []) (hr : r.2 ≠ 0)
    (h : Has W R [.slice none 0 0, .slice none 0 0]) (hb : Below w.heap.size w W) : bodyPost Tryz.prog Tryz.f31 (ApPost r w) .ret a W := by
 obtain ⟨c0, c1', _, _⟩ := h.two
 refine bodyPost_ret (v := .tuple #[.agg #[.slice none 0 0, .slice none 0 0], .int .i64 r.2]) ?_ hd ⟨by rw [if_neg hr], hb⟩
 have ht' : a.tmps[4]?.getD undef = .pointer (some ⟨R, 0, none⟩) := by simpa using ht
 have ht5' : a.tmps[5]?.getD undef = .int .i64 r.2 := by simpa using ht5
 simp [results, Tryz.results31, go_sem, ht', ht5', c0, c1']
theorem ent_one (w : World) (x : Ent) (F : Dom) (hF : ∀ b, w.heap.size ≤ b → F b) (t : TypeId) : SAt cEnt (w.alloc (.cells (entC x).toArray t)) F (.slice (some ⟨w.heap.size, 0, none⟩) 1 1) [x] := by
 refine ⟨_, 1, rfl, Nat.le_refl _, fun i y hi => ⟨w.heap.size, 0, rfl, hF _ (Nat.le_refl _), by simp, entC y, rfl, fun j u hj => ?_⟩⟩
 cases i with
 | succ i => simp at hi
 | zero =>
  obtain rfl : x = y := by simpa using hi
  have := (Has.alloc w (entC x) t).1 j u hj
  simpa using this
theorem Apply_any (s : St) (x : Ent) (vB vS : Value) (F : Dom) (m : Int) (w : World) (hB : SAt cBox w F vB s.boxes) (hS : SAt cEnt w F vS s.spool) (hg : GoodS s) (hx : Small x)
    (hm : w.cell? ⟨6, 0, none⟩ = some (.int .i64 m)) : Calls Tryz.prog 31 #[.agg #[vB, vS], .agg #[.int .i64 x.kind, .string ⟨x.box.toArray⟩, .int .i64 x.uid, .int .i64 x.flags, .string ⟨x.to.toArray⟩, .string ⟨x.text.toArray⟩]] w (ApPost (allS s [x]) w) := by
 obtain ⟨Gb, cb, rfl, hcb⟩ := hB.form
 obtain ⟨Gs, cS, rfl, hcs⟩ := hS.form
 have hA := ba (ba (ba (ba (Below.refl w.heap.size w) (.cells #[.slice Gb s.boxes.length cb, .slice Gs s.spool.length cS] 73)) (.cells #[.int .i64 x.kind, .string ⟨x.box.toArray⟩, .int .i64 x.uid, .int .i64 x.flags, .string ⟨x.to.toArray⟩, .string ⟨x.text.toArray⟩] 80)) (.cells #[.slice none 0 0, .slice none 0 0] 73)) (.cells #[.int .i64 x.kind, .string ⟨x.box.toArray⟩, .int .i64 x.uid, .int .i64 x.flags, .string ⟨x.to.toArray⟩, .string ⟨x.text.toArray⟩] 80)
 have h2 := (Has.alloc ((w.alloc (.cells #[.slice Gb s.boxes.length cb, .slice Gs s.spool.length cS] 73)).alloc (.cells #[.int .i64 x.kind, .string ⟨x.box.toArray⟩, .int .i64 x.uid, .int .i64 x.flags, .string ⟨x.to.toArray⟩, .string ⟨x.text.toArray⟩] 80)) [.slice none 0 0, .slice none 0 0] 73).down (ba (Below.refl _ _) (.cells #[.int .i64 x.kind, .string ⟨x.box.toArray⟩, .int .i64 x.uid, .int .i64 x.flags, .string ⟨x.to.toArray⟩, .string ⟨x.text.toArray⟩] 80))
 simp only [World.size_alloc] at h2
 have hone := ent_one (((w.alloc (.cells #[.slice Gb s.boxes.length cb, .slice Gs s.spool.length cS] 73)).alloc (.cells #[.int .i64 x.kind, .string ⟨x.box.toArray⟩, .int .i64 x.uid, .int .i64 x.flags, .string ⟨x.to.toArray⟩, .string ⟨x.text.toArray⟩] 80)).alloc (.cells #[.slice none 0 0, .slice none 0 0] 73)) x (fun b => F b ∨ w.heap.size ≤ b) (fun b h => .inr (by simp at h; omega)) 80
 simp only [World.size_alloc] at hone
 have hcall := Lib.hid (all_any s [x] _ _ _ (fun b => F b ∨ w.heap.size ≤ b) m _ ((hB.down hA).mono (fun b h => .inl h)) ((hS.down hA).mono (fun b h => .inl h)) hg hone (by simp) (fun y hy => by obtain rfl := List.mem_singleton.1 hy; exact hx) (moved hm hA (Nat.le_refl _)))
 obtain ⟨r, hr⟩ : ∃ r, r = allS s [x] := ⟨_, rfl⟩
 rw [← hr] at hcall ⊢
 have HA := Lib.hid hA; have H2 := Lib.hid h2
 clear hA h2 hB hS hg hm hone hx hr
 go_enter Tryz.func31, Tryz.ntmps31
 go_wp2_with fail
 refine hcall.out.mono ?_
 rintro e w1 ⟨he, hb1⟩
 have HA1 := Lib.hid (bt HA.out hb1); have HR := Lib.hid (H2.out.down hb1)
 obtain ⟨d0, d1, g0, g1⟩ := HR.out.two
 have hz1 := HR.out.2.2
 clear hb1 H2 hcall
 by_cases hr0 : r.2 = 0
 ·rw [if_pos hr0] at he
  obtain ⟨G1, c1, G2, c2, rfl, hv⟩ := he
  have HV := Lib.hid hv; have HR0 := Lib.hid hr0
  clear hv hr0
  go_wp2_with fail
  exact ap_end (R := w.heap.size + 1 + 1) rfl rfl rfl HR0.out ((HR.out.set' (i := 0) _ (by simp)).set' (i := 1) _ (by simp)) (((HV.out.else' (by simp)).else' (by simp)).base (by simp; omega)) ((HA1.out.setCell (p := ⟨w.heap.size + 1 + 1, 0, none⟩) (by show w.heap.size ≤ w.heap.size + 1 + 1; omega) _).setCell (p := ⟨w.heap.size + 1 + 1, 1, none⟩) (by show w.heap.size ≤ w.heap.size + 1 + 1; omega) _)
 ·rw [if_neg hr0] at he
  subst he
  have HR0 := Lib.hid hr0
  clear hr0
  go_wp2_with fail
  exact ap_end0 (R := w.heap.size + 1 + 1) rfl rfl rfl HR0.out ((HR.out.set' (i := 0) _ (by simp)).set' (i := 1) _ (by simp)) ((HA1.out.setCell (p := ⟨w.heap.size + 1 + 1, 0, none⟩) (by show w.heap.size ≤ w.heap.size + 1 + 1; omega) _).setCell (p := ⟨w.heap.size + 1 + 1, 1, none⟩) (by show w.heap.size ≤ w.heap.size + 1 + 1; omega) _)
def st0 : St := ⟨[⟨[73, 78, 66, 79, 88], 1, []⟩], []⟩
theorem allS_one (s : St) (x : Ent) (hx : formV x = 0) : allS s [x] = if (applyS s x).2 ≠ 0 then (s, (applyS s x).2) else ((applyS s x).1, 0) := by
 show (if formV x ≠ 0 then _ else if (applyS s x).2 ≠ 0 then _ else _) = _
 rw [if_neg (by rw [hx]; decide)]; rfl
theorem allS_one_good {s : St} {x : Ent} (hg : GoodS s) (hx : formV x = 0) : GoodS (allS s [x]).1 := by
 rw [allS_one s x hx]
 split
 ·exact hg
 ·exact applyS_good hg hx
theorem st0_good : GoodS st0 where
 boxes := by decide
 spool := by decide
 ok := fun b hb => by
  obtain rfl := List.mem_singleton.1 hb
  exact ⟨by decide +kernel, Nat.le_refl _, by show (1 : Nat) ≤ 1048577; omega, Nat.zero_le _, trivial⟩
 names := List.pairwise_singleton _ _
 out := fun x hx => by cases hx
 room := Nat.zero_le _
def ApNew (r : St × Int) (wr : World) (p e : Value) (wx : World) : Prop := ∃ (R : Nat) (B : Nat), p = .pointer (some ⟨R, 0, none⟩) ∧ e = .int .i64 r.2 ∧ wr.heap.size ≤ R ∧ wr.heap.size ≤ B ∧ Below wr.heap.size wr wx ∧ R < wx.heap.size ∧
 (r.2 = 0 → ∃ G1 c1 G2 c2, Has wx R [.slice G1 r.1.boxes.length c1, .slice G2 r.1.spool.length c2] ∧ OwnV wx B (.slice G1 r.1.boxes.length c1) (.slice G2 r.1.spool.length c2) r.1)
theorem ap_new {r : St × Int} {wr wx : World} {B : Nat} {v1 v2 : Value} (hb : Below wr.heap.size wr wx) (hB : wr.heap.size ≤ B) (h : r.2 = 0 → ∃ G1 c1 G2 c2, v1 = .slice G1 r.1.boxes.length c1 ∧ v2 = .slice G2 r.1.spool.length c2 ∧ OwnV wx B v1 v2 r.1) :
    ApNew r wr (.pointer (some ⟨wx.heap.size, 0, none⟩)) (.int .i64 r.2) (wx.alloc (.cells #[v1, v2] 73)) :=
 ⟨wx.heap.size, B, rfl, rfl, hb.size, hB, ba hb _, by simp, fun h0 => by obtain ⟨G1, c1, G2, c2, rfl, rfl, ho⟩ := h h0; exact ⟨G1, c1, G2, c2, Has.alloc wx _ _, ho.down (ba (Below.refl _ _) _)⟩⟩
theorem ap_at {r : St × Int} {wr wx : World} {B R : Nat} {v1 v2 : Value} (hb : Below wr.heap.size wr wx) (hR : wr.heap.size ≤ R) (hB : R < B) (hk : Has wx R [.slice none 0 0, .slice none 0 0]) (h : r.2 = 0 → ∃ G1 c1 G2 c2, v1 = .slice G1 r.1.boxes.length c1 ∧ v2 = .slice G2 r.1.spool.length c2 ∧ OwnV wx B v1 v2 r.1) :
    ApNew r wr (.pointer (some ⟨R, 0, none⟩)) (.int .i64 r.2) ((wx.setCell ⟨R, 0, none⟩ v1).setCell ⟨R, 1, none⟩ v2) :=
 ⟨R, B, rfl, rfl, hR, by omega, (hb.setCell (p := ⟨R, 0, none⟩) hR _).setCell (p := ⟨R, 1, none⟩) hR _, by have := hk.2.2; simpa using this, fun h0 => by
  obtain ⟨G1, c1, G2, c2, rfl, rfl, ho⟩ := h h0
  exact ⟨G1, c1, G2, c2, (hk.set' (i := 0) _ (by simp)).set' (i := 1) _ (by simp), (ho.else' hB).else' hB⟩⟩
end Go.Proofs.YtpfbkdbblpppdaaGreatDoor
