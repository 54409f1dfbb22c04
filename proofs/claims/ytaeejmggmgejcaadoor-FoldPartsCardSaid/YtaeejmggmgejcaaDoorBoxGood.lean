/-
  DERIVED. What is done to a state that may be leaves a state that may be. No program in sight.
-/
import Derived.Test.YtaeejmggmgejcaaDoorBoxPlain
namespace Go.Proofs.YtaeejmggmgejcaaDoor

theorem MailsOK.next {n n' : Nat} (h : n ≤ n') : ∀ {l : List Mail} {last : Nat}, MailsOK n last l → MailsOK n' last l
  | [], _, _ => trivial
  | _ :: _, _, ⟨h1, h2, h3, h4, h5⟩ => ⟨h1, Nat.lt_of_lt_of_le h2 h, h3, h4, MailsOK.next h h5⟩
theorem MailsOK.last {n : Nat} : ∀ {l : List Mail} {a b : Nat}, a ≤ b → MailsOK n b l → MailsOK n a l
  | [], _, _, _, _ => trivial
  | _ :: _, _, _, h, ⟨h1, h2, h3, h4, h5⟩ => ⟨Nat.lt_of_le_of_lt h h1, h2, h3, h4, h5⟩
theorem MailsOK.snoc {n fl : Nat} {tx : List UInt8} (hfl : fl ≤ 31) (htx : tx.length ≤ 2000) : ∀ {l : List Mail} {last : Nat}, last < n → MailsOK n last l → MailsOK (n + 1) last (l ++ [⟨n, fl, tx⟩])
  | [], _, h, _ => ⟨h, Nat.lt_succ_self _, hfl, htx, trivial⟩
  | m :: l, last, _, ⟨h1, h2, h3, h4, h5⟩ => ⟨h1, Nat.lt_succ_of_lt h2, h3, h4, MailsOK.snoc hfl htx (l := l) (last := m.uid) h2 h5⟩
theorem MailsOK.filter {n : Nat} (p : Mail → Bool) : ∀ {l : List Mail} {last : Nat}, MailsOK n last l → MailsOK n last (l.filter p)
  | [], _, _ => trivial
  | m :: l, last, ⟨h1, h2, h3, h4, h5⟩ => by
    rw [List.filter_cons]
    split
    · exact ⟨h1, h2, h3, h4, MailsOK.filter p h5⟩
    · exact (MailsOK.filter p h5).last (Nat.le_of_lt h1)
theorem MailsOK.set {n fl : Nat} (hfl : fl ≤ 31) : ∀ {l : List Mail} {last k : Nat} {m : Mail}, l[k]? = some m → MailsOK n last l → MailsOK n last (l.set k ⟨m.uid, fl, m.text⟩)
  | [], _, _, _, h, _ => by simp at h
  | x :: l, last, 0, m, h, ⟨h1, h2, h3, h4, h5⟩ => by
    obtain rfl : x = m := by simpa using h
    exact ⟨h1, h2, hfl, h4, h5⟩
  | x :: l, last, k + 1, m, h, ⟨h1, h2, h3, h4, h5⟩ => ⟨h1, h2, h3, h4, MailsOK.set hfl (by simpa using h) h5⟩
theorem sumM_append (a b : List Mail) : sumM (a ++ b) = sumM a + sumM b := by unfold sumM; rw [List.map_append, List.sum_append]
theorem sumM_filter (p : Mail → Bool) : ∀ l : List Mail, sumM (l.filter p) ≤ sumM l
  | [] => Nat.le_refl _
  | m :: l => by
    have ih := sumM_filter p l
    have e : sumM (m :: l) = m.text.length + sumM l := rfl
    rw [List.filter_cons]
    split
    · show m.text.length + sumM (l.filter p) ≤ _; omega
    · omega
theorem sumM_set : ∀ (l : List Mail) (k fl : Nat) (m : Mail), l[k]? = some m → sumM (l.set k ⟨m.uid, fl, m.text⟩) = sumM l
  | [], _, _, _, h => by simp at h
  | x :: l, 0, fl, m, h => by
    obtain rfl : x = m := by simpa using h
    rfl
  | x :: l, k + 1, fl, m, h => by
    show x.text.length + sumM (l.set k _) = x.text.length + sumM l
    rw [sumM_set l k fl m (by simpa using h)]
theorem sumB_set : ∀ (l : List Bx) (i : Nat) (b b' : Bx), l[i]? = some b → sumB (l.set i b') + sumM b.mails = sumB l + sumM b'.mails
  | [], _, _, _, h => by simp at h
  | x :: l, 0, b, b', h => by
    obtain rfl : x = b := by simpa using h
    show sumM b'.mails + sumB l + sumM x.mails = sumM x.mails + sumB l + sumM b'.mails
    omega
  | x :: l, i + 1, b, b', h => by
    have ih := sumB_set l i b b' (by simpa using h)
    show sumM x.mails + sumB (l.set i b') + sumM b.mails = sumM x.mails + sumB l + sumM b'.mails
    omega
theorem names_set {l : List Bx} {i : Nat} {b b' : Bx} (h : l.Pairwise fun a b => a.name ≠ b.name) (hb : l[i]? = some b) (hn : b'.name = b.name) : (l.set i b').Pairwise fun a b => a.name ≠ b.name := by
  have key : (l.set i b').map Bx.name = l.map Bx.name := by
    rw [List.map_set, hn]
    obtain ⟨hi, hbi⟩ := List.getElem?_eq_some_iff.1 hb
    apply List.ext_getElem?
    intro k
    rw [List.getElem?_set]
    split
    · rename_i e; subst e
      rw [if_pos (by rw [List.length_map]; exact hi), List.getElem?_map, hb]; rfl
    · rfl
  have h1 : (l.map Bx.name).Pairwise (· ≠ ·) := List.pairwise_map.2 h
  rw [← key] at h1
  exact List.pairwise_map.1 h1
/-- box i becomes another, that may be -/
theorem GoodS.set {s : St} {i : Nat} {b b' : Bx} (h : GoodS s) (hb : s.boxes[i]? = some b) (hn : b'.name = b.name) (hok : BoxOK b') (hr : sumB s.boxes + sumM b'.mails ≤ 6000 + sumM b.mails) : GoodS ⟨s.boxes.set i b', s.spool⟩ where
  boxes := by show (s.boxes.set i b').length ≤ 5; rw [List.length_set]; exact h.boxes
  spool := h.spool
  ok := fun x hx => by
    rcases List.mem_or_eq_of_mem_set hx with hx | rfl
    · exact h.ok x hx
    · exact hok
  names := names_set h.names hb hn
  out := h.out
  room := by
    have := sumB_set s.boxes i b b' hb
    show sumB (s.boxes.set i b') ≤ 6000
    omega
theorem addS_good {s t : St} {i fl : Nat} {tx : List UInt8} (h : GoodS s) (hfl : fl ≤ 31) (htx : tx.length ≤ 2000) (ht : addS s i fl tx = some t) : GoodS t := by
  unfold addS at ht
  cases hb : s.boxes[i]? with
  | none => rw [hb] at ht; cases ht
  | some b =>
    rw [hb] at ht
    simp only at ht
    split at ht
    · cases ht
    · rename_i hc
      obtain rfl := Option.some.inj ht
      obtain ⟨b1, b2, b3, b4, b5⟩ := h.ok b (List.mem_of_getElem? hb)
      refine h.set hb rfl ⟨b1, by show 1 ≤ b.next + 1; omega, by show b.next + 1 ≤ _; omega, by show (b.mails ++ [_]).length ≤ 30; rw [List.length_append, List.length_singleton]; omega, MailsOK.snoc hfl htx (by omega) b5⟩ ?_
      show sumB s.boxes + sumM (b.mails ++ [_]) ≤ _
      rw [sumM_append]
      show sumB s.boxes + (sumM b.mails + (tx.length + 0)) ≤ _
      omega
theorem mail_bounds {n : Nat} : ∀ {l : List Mail} {last k : Nat} {m : Mail}, MailsOK n last l → l[k]? = some m → m.flags ≤ 31 ∧ m.text.length ≤ 2000
  | [], _, _, _, _, h => by simp at h
  | x :: l, _, 0, m, ⟨_, _, h3, h4, _⟩, h => by
    obtain rfl : x = m := by simpa using h
    exact ⟨h3, h4⟩
  | x :: l, _, k + 1, m, ⟨_, _, _, _, h5⟩, h => mail_bounds h5 (by simpa using h)
theorem form_parts {x : Ent} (h : formV x = 0) : 1 ≤ x.kind ∧ x.kind ≤ 6 ∧ x.flags ≤ 31 ∧ x.text.length ≤ 2000 ∧ (x.kind ≠ 6 → nameCode x.box = 0) := by
  unfold formV at h
  split at h
  · cases h
  · split at h
    · cases h
    · split at h
      · cases h
      · split at h
        · cases h
        · split at h
          · exact ⟨by omega, by omega, by omega, by omega, fun e => absurd (by assumption) e⟩
          · split at h
            · exact absurd h (by assumption)
            · rename_i hn
              exact ⟨by omega, by omega, by omega, by omega, fun _ => Classical.byContradiction hn⟩
theorem applyS_good {s : St} {x : Ent} (h : GoodS s) (hx : formV x = 0) : GoodS (applyS s x).1 := by
  obtain ⟨k1, k6, hfl, htx, hnm⟩ := form_parts hx
  unfold applyS
  split
  · rename_i e6
    split
    · exact h
    · rename_i h20
      exact ⟨h.boxes, by show (s.spool ++ [x]).length ≤ 20; rw [List.length_append, List.length_singleton]; have := h.spool; omega, h.ok, h.names, (fun y hy => by
        rcases List.mem_append.1 hy with hy | hy
        · exact h.out y hy
        · obtain rfl := List.mem_singleton.1 hy; exact ⟨e6, hx⟩), h.room⟩
  · rename_i e6
    split
    · rename_i hf
      split
      · split
        · exact h
        · refine ⟨by show (s.boxes ++ [_]).length ≤ 5; rw [List.length_append, List.length_singleton]; have := h.boxes; omega, h.spool, (fun b hb => ?_), ?_, h.out, ?_⟩
          · rcases List.mem_append.1 hb with hb | hb
            · exact h.ok b hb
            · obtain rfl := List.mem_singleton.1 hb
              exact ⟨hnm e6, Nat.le_refl _, by show (1 : Nat) ≤ 1048577; omega, Nat.zero_le _, trivial⟩
          · refine List.pairwise_append.2 ⟨h.names, List.pairwise_singleton _ _, fun a ha b hb => ?_⟩
            obtain rfl := List.mem_singleton.1 hb
            exact findB_none hf a ha
          · show sumB (s.boxes ++ [_]) ≤ 6000
            have : sumB (s.boxes ++ [⟨x.box, 1, []⟩]) = sumB s.boxes := by unfold sumB; rw [List.map_append, List.sum_append]; simp [sumM]
            rw [this]; exact h.room
      · exact h
    · rename_i i hf
      split
      · exact h
      · split
        · split
          · rename_i t ht; exact addS_good h hfl htx ht
          · exact h
        · split
          · exact h
          · rename_i b hb
            obtain ⟨b1, b2, b3, b4, b5⟩ := h.ok b (List.mem_of_getElem? hb)
            have hroom := h.room
            split
            · refine h.set hb rfl ⟨b1, b2, b3, Nat.le_trans (List.length_filter_le _ _) b4, b5.filter _⟩ ?_
              have := sumM_filter (fun m => m.flags &&& 8 == 0) b.mails
              show sumB s.boxes + sumM (b.mails.filter _) ≤ _
              omega
            · split
              · exact h
              · rename_i k hk
                split
                · exact h
                · rename_i m hm
                  split
                  · refine h.set hb rfl ⟨b1, b2, b3, by show (b.mails.set _ _).length ≤ 30; rw [List.length_set]; exact b4, MailsOK.set hfl hm b5⟩ ?_
                    show sumB s.boxes + sumM (b.mails.set _ _) ≤ _
                    rw [sumM_set _ _ _ _ hm]; omega
                  · split
                    · exact h
                    · rename_i j hj
                      obtain ⟨mf, mt⟩ := mail_bounds b5 hm
                      split
                      · rename_i t ht; exact addS_good h mf mt ht
                      · exact h
end Go.Proofs.YtaeejmggmgejcaaDoor
