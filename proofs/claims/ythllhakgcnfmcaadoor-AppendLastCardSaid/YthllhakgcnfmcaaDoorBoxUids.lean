/-
  DERIVED. The last mail with a Uid, looked for mail by mail; an entry with other flags. And 'Size' of box.
-/
import Derived.Test.YthllhakgcnfmcaaDoorBoxHead
namespace Go.Proofs.YthllhakgcnfmcaaDoor
open Go.RowKit

theorem uid_step {n last : Nat} {l : List Mail} {u : Nat} (hok : MailsOK n last l) (j : Nat) (hj : j < l.length) : uidIdx (l.take (j + 1)) u = if l[j].uid = u then some j else uidIdx (l.take j) u := by
  unfold uidIdx
  rw [List.take_succ_eq_append_getElem hj, List.findIdx?_append]
  by_cases he : l[j].uid = u
  · have hn : (l.take j).findIdx? (fun m => m.uid == u) = none := by
      rw [List.findIdx?_eq_none_iff]
      intro m hm
      obtain ⟨k, hk, rfl⟩ := List.getElem_of_mem hm
      rw [List.length_take] at hk
      rw [List.getElem_take]
      simp only [beq_eq_false_iff_ne, ne_eq]
      intro e
      have := uid_one hok (i := k) (j := j) (List.getElem?_eq_getElem (by omega)) (List.getElem?_eq_getElem hj) (by rw [e, he])
      omega
    rw [hn, if_pos he]
    simp [List.findIdx?_cons, he]
    omega
  · rw [if_neg he]
    simp [List.findIdx?_cons, he]
def flagAt (l : List Mail) : Option Nat → Int
  | none => -1
  | some k => match l[k]? with
    | some m => m.flags
    | none => -1
theorem flagAt_some {l : List Mail} {k : Nat} {m : Mail} (h : l[k]? = some m) : flagAt l (some k) = m.flags := by unfold flagAt; simp only; rw [h]
theorem flags_form {x : Ent} (fl : Nat) (hk : x.kind = 3) (hx : formV x = 0) (hf : fl ≤ 31) : formV ⟨x.kind, fl, x.uid, x.box, x.to, x.text⟩ = 0 := by
  unfold formV at hx ⊢
  have hs : shapeOK ⟨x.kind, fl, x.uid, x.box, x.to, x.text⟩ = shapeOK x := by unfold shapeOK; simp [hk]
  rw [hs]
  simp only [hk] at hx ⊢
  split
  · rename_i h; rw [if_pos h] at hx; exact hx
  · rename_i h; rw [if_neg h] at hx
    split
    · rename_i h2; rw [if_pos h2] at hx; exact hx
    · rename_i h2; rw [if_neg h2] at hx
      split at hx
      · cases hx
      · rename_i h3
        rw [if_neg (by omega)]
        exact hx
theorem flags_sum {s : St} {i k fl : Nat} {b : Bx} {m : Mail} (hb : s.boxes[i]? = some b) (hm : b.mails[k]? = some m) : sumB (s.boxes.set i ⟨b.name, b.next, b.mails.set k ⟨m.uid, fl, m.text⟩⟩) = sumB s.boxes := by
  have := sumB_set s.boxes i b ⟨b.name, b.next, b.mails.set k ⟨m.uid, fl, m.text⟩⟩ hb
  have h2 := sumM_set b.mails k fl m hm
  simp only at this
  omega

set_option maxHeartbeats 4000000 in
set_option maxRecDepth 20000 in
theorem Size_any (s : St) (vB vS : Value) (F : Dom) (m : Int) (w : World) (hB : SAt cBox w F vB s.boxes) (hS : SAt cEnt w F vS s.spool) (hg : GoodS s) (hm : w.cell? ⟨0, 0, none⟩ = some (.int .i64 m)) :
    Calls Tryd.prog 19 #[.agg #[vB, vS]] w fun e w' => e = .returned (.tuple #[.int .i64 (sumB s.boxes), .int .i64 0]) ∧ Below w.heap.size w w' := by
  obtain ⟨Gb, cb, rfl, hcb⟩ := hB.form
  obtain ⟨Gs, cS, rfl, hcs⟩ := hS.form
  have hA := ba (Below.refl w.heap.size w) (.cells #[.slice Gb s.boxes.length cb, .slice Gs s.spool.length cS] 28)
  have HX := Lib.hid (Has.alloc w [.slice Gb s.boxes.length cb, .slice Gs s.spool.length cS] 28)
  have HB := Lib.hid (hB.down hA); have HS := Lib.hid (hS.down hA); have HG := Lib.hid hg; have HM := Lib.hid (moved hm hA (Nat.le_refl _)); have HA := Lib.hid hA
  have hbl := hg.boxes; have hroom := hg.room
  clear hB hS hg hm hA
  obtain ⟨c0, c1, -, -⟩ := HX.out.two
  go_enter Tryd.func19, Tryd.ntmps19
  go_wp2_with fail
  refine (checkS_any s _ _ F m _ HB.out HS.out HG.out HM.out).mono ?_
  rintro e w1 ⟨rfl, hb1⟩
  have HA1 := Lib.hid hb1
  obtain ⟨d0, d1, -, -⟩ := (HX.out.down hb1).two
  clear hb1 c0 c1
  go_wp2_with fail
  refine (bsize_any _ _ _ _ s.boxes F _ (HB.out.down HA1.out) (by omega) (good_mails HG.out) (by omega)).mono ?_
  rintro e w2 ⟨rfl, hb2⟩
  have HA2 := Lib.hid (bt (bt HA.out HA1.out) hb2)
  clear hb2 d0 d1
  go_wp2_with fail
  go_ret2
  exact ⟨rfl, HA2.out⟩
end Go.Proofs.YthllhakgcnfmcaaDoor
