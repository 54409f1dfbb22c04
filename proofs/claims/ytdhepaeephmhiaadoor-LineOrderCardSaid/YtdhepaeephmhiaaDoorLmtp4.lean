/-
  DERIVED. 'mail', 'body' of lmtp's session: the walks.
-/
import Derived.Test.YtdhepaeephmhiaaDoorLmtp3
import Derived.BigRegion
namespace Go.Proofs.YtdhepaeephmhiaaDoor
open Go.RowKit
variable {LB : Nat}

/-- the cells of a session, its rcpts in v -/
def sesC (s : Ses) (v : Value) : List Value := [.int .i64 s.step, .string ⟨s.frm.1.toArray⟩, .string ⟨s.frm.2.toArray⟩, v, .string ⟨s.text.toArray⟩, .bool s.large]
/-- the variable R holds the session s; its rcpts lie elsewhere -/
structure SesAt (LB : Nat) (w : World) (R : Nat) (v : Value) (s : Ses) : Prop where
  has : Has w R (sesC s v)
  rcp : SAt cAd w (fun b => b ≠ R ∧ LB ≤ b) v s.rcp
theorem SesAt.down {w w' : World} {R : Nat} {v : Value} {s : Ses} (h : SesAt LB w R v s) (hb : Below w.heap.size w w') : SesAt LB w' R v s := ⟨h.has.down hb, h.rcp.down hb⟩
theorem SesAt.six {w : World} {R : Nat} {v : Value} {s : Ses} (h : SesAt LB w R v s) : Has w R [.int .i64 s.step, .string ⟨s.frm.1.toArray⟩, .string ⟨s.frm.2.toArray⟩, v, .string ⟨s.text.toArray⟩, .bool s.large] := h.has
/-- what a method of the session leaves -/
def SesPost (LB R : Nat) (s : Ses) (w w' : World) : Prop := (∃ v, SesAt LB w' R v s) ∧ w.grownBy w' (some R)
theorem SesPost.of {R : Nat} {s : Ses} {v : Value} {w w' : World} (h : SesAt LB w' R v s) (g : w.grownBy w' (some R)) : SesPost LB R s w w' := ⟨⟨v, h⟩, g⟩
theorem gb {w w' : World} {R : Nat} (hb : Below w.heap.size w w') : w.grownBy w' (some R) := Go.Lib.grownBy_below (World.grownBy.refl w (some R)) hb
/-- the rcpts stay where the session's own block is written -/
theorem rcp_kept {w w' : World} {R : Nat} {v : Value} {l : List Ad} (h : SAt cAd w (fun b => b ≠ R ∧ LB ≤ b) v l) (g : w.grownBy w' (some R)) : SAt cAd w' (fun b => b ≠ R ∧ LB ≤ b) v l :=
  h.stable (Same.of_grown g (fun _ e hh => hh.1 (Option.some.inj e).symm)) g.size

def mailO (s : Ses) (o : Option Ad) : Ses × Int :=
  if s.step ≠ 1 then (s, 503) else match o with
    | none => (s, 501)
    | some a => (⟨2, a, s.rcp, s.text, s.large⟩, 250)
set_option maxHeartbeats 4000000 in
set_option maxRecDepth 20000 in
theorem mail_any (R : Nat) (v : Value) (s : Ses) (S : ByteArray) (m : Int) (w : World) (h : SesAt LB w R v s) (hs : S.size ≤ 2000) (hm : w.cell? ⟨0, 0, none⟩ = some (.int .i64 m)) :
    Calls Tryd.prog 46 #[.pointer (some ⟨R, 0, none⟩), .string S] w fun e w' => e = .returned (.int .i64 (mailS s S.data.toList).2) ∧ SesPost LB R (mailS s S.data.toList).1 w w' := by
  have HA := Lib.hid (adr_any S m w hs hm)
  have H := Lib.hid h
  have HO : Hid (mailS s S.data.toList = mailO s (adrS S.data.toList)) := rfl
  obtain ⟨o, ho⟩ : ∃ o, o = adrS S.data.toList := ⟨_, rfl⟩
  rw [← ho] at HO
  rw [← ho] at HA
  have hRz := h.has.2.2
  clear h hm ho
  go_enter Tryd.func46, Tryd.ntmps46
  go_wp2_with fail
  refine HA.out.mono ?_
  rintro e w1 ⟨⟨x, y, rfl, hxy⟩, hb1⟩
  have hA1 := bt hb1 (ba (Below.refl w1.heap.size w1) (.cells #[.string x, .string y] 44))
  have H1 := Lib.hid (H.out.down hA1); have HB1 := Lib.hid hA1
  have hR1 : R < w1.heap.size := Nat.lt_of_lt_of_le hRz hb1.size
  obtain ⟨c0, c1, c2, c3, c4, c5⟩ := H1.out.six.six
  clear hb1 hA1 HA H
  by_cases h1 : s.step = 1
  · have q : ((s.step : Int) == 1) = true := by rw [h1]; rfl
    have q' : ((s.step : Int) != 1) = false := by rw [h1]; rfl
    cases o with
    | none =>
      have HO2 : Hid (mailS s S.data.toList = (s, 501)) := by unfold Hid; rw [HO.out]; unfold mailO; rw [if_neg (by simp [h1])]
      clear HO hxy h1
      go_wp2_with fail
      go_ret
      exact ⟨by rw [HO2.out]; rfl, by rw [HO2.out]; exact SesPost.of H1.out (gb HB1.out)⟩
    | some a =>
      obtain ⟨rfl, rfl⟩ := hxy a rfl
      have HO2 : Hid (mailS s S.data.toList = (⟨2, a, s.rcp, s.text, s.large⟩, 250)) := by unfold Hid; rw [HO.out]; unfold mailO; rw [if_neg (by simp [h1])]
      clear HO hxy h1
      obtain ⟨f0, f1, f2, f3, f4, f5⟩ := H1.out.six.six_free
      obtain ⟨W1, hW1⟩ : ∃ W1, W1 = w1.alloc (.cells #[.string ⟨a.1.toArray⟩, .string ⟨a.2.toArray⟩] 44) := ⟨_, rfl⟩
      obtain ⟨n0, n1, -, -⟩ := (Has.alloc w1 [.string ⟨a.1.toArray⟩, .string ⟨a.2.toArray⟩] 44).two
      go_upto_region 6 with fail
      rw [← hW1] at H1 HB1 c0 c1 c2 c3 c4 c5 f0 f1 f2 f3 f4 f5 n0 n1 ⊢
      clear hW1
      go_region
      have hg : W1.grownBy (((W1.setCell ⟨R, 0, none⟩ (.int .i64 2)).setCell ⟨R, 1, none⟩ (.string ⟨a.1.toArray⟩)).setCell ⟨R, 2, none⟩ (.string ⟨a.2.toArray⟩)).drew (some R) :=
        Go.Lib.grownBy_below (Go.Lib.grownBy_setB (Go.Lib.grownBy_setB (Go.Lib.grownBy_setB (World.grownBy.refl W1 (some R)) 0 _) 1 _) 2 _) (Below.drew (Below.refl _ _))
      have HS : Hid (SesAt LB (((W1.setCell ⟨R, 0, none⟩ (.int .i64 2)).setCell ⟨R, 1, none⟩ (.string ⟨a.1.toArray⟩)).setCell ⟨R, 2, none⟩ (.string ⟨a.2.toArray⟩)).drew R v ⟨2, a, s.rcp, s.text, s.large⟩) :=
        ⟨(((H1.out.six.set' (i := 0) _ (by simp)).set' (i := 1) _ (by simp)).set' (i := 2) _ (by simp)).down (Below.drew (Below.refl _ _)), rcp_kept H1.out.rcp hg⟩
      have HG := Lib.hid (Go.Lib.grownBy_trans (gb (R := R) HB1.out) hg)
      clear c0 c1 c2 c3 c4 c5 f0 f1 f2 f3 f4 f5 n0 n1 hg
      go_wp2_with fail
      go_ret
      exact ⟨by rw [HO2.out]; rfl, by rw [HO2.out]; exact SesPost.of HS.out HG.out⟩
  · have q : ((s.step : Int) == 1) = false := by simp; omega
    have q' : ((s.step : Int) != 1) = true := by simp; omega
    have HO2 : Hid (mailS s S.data.toList = (s, 503)) := by unfold Hid; rw [HO.out]; unfold mailO; rw [if_pos h1]
    clear HO hxy h1
    go_wp2_with fail
    go_ret
    exact ⟨by rw [HO2.out]; rfl, by rw [HO2.out]; exact SesPost.of H1.out (gb HB1.out)⟩

set_option maxHeartbeats 4000000 in
set_option maxRecDepth 20000 in
theorem body_any (R : Nat) (v : Value) (s : Ses) (S : ByteArray) (w : World) (h : SesAt LB w R v s) (hs : S.size ≤ 100000) (ht : s.text.length ≤ 2000) :
    Calls Tryd.prog 26 #[.pointer (some ⟨R, 0, none⟩), .string S] w fun e w' => e = .returned (.tuple #[]) ∧ SesPost LB R (bodyS s S.data.toList) w w' := by
  have HU := Lib.hid (undot_any S w hs)
  have hul : (undot S.data.toList).length ≤ S.size := by
    have : S.data.toList.length = S.size := by simp
    unfold undot; split
    · rw [List.length_tail]; omega
    · omega
  obtain ⟨l, hl⟩ : ∃ l, l = undot S.data.toList := ⟨_, rfl⟩
  have HO : Hid (bodyS s S.data.toList = ⟨s.step, s.frm, s.rcp, if (s.large || decide (2000 < s.text.length + l.length + 2)) then s.text else s.text ++ l ++ [13, 10], s.large || decide (2000 < s.text.length + l.length + 2)⟩) := by unfold Hid; rw [hl]; rfl
  rw [← hl] at HU hul
  have H := Lib.hid h
  obtain ⟨c0, c1, c2, c3, c4, c5⟩ := h.six.six
  obtain ⟨f0, f1, f2, f3, f4, f5⟩ := h.six.six_free
  clear h hl c0 c1 c2 c3 f0 f1 f2 f3
  go_enter Tryd.func26, Tryd.ntmps26
  go_wp2_with fail
  refine HU.out.mono ?_
  rintro e w1 ⟨rfl, hb1⟩
  have H1 := Lib.hid (H.out.down hb1); have HB1 := Lib.hid hb1
  clear hb1 c4 c5 f4 f5 HU H
  obtain ⟨-, -, -, -, c4, c5⟩ := H1.out.six.six
  obtain ⟨-, -, -, -, f4, f5⟩ := H1.out.six.six_free
  have hls : s.text.length ≤ 2000 := ht
  have HD : Hid (∀ b, decide (2000 < s.text.length + l.length + 2) = b → decide ((2000 : Int) < (s.text.length : Int) + l.length + 2) = b) := by
    intro b hb; subst hb
    exact decide_eq_decide.2 (by omega)
  cases hd : decide (2000 < s.text.length + l.length + 2) with
  | true =>
    have hd2 := HD.out _ hd
    have HO2 : Hid (bodyS s S.data.toList = ⟨s.step, s.frm, s.rcp, s.text, true⟩) := by
      unfold Hid; rw [HO.out, hd, Bool.or_true]; rfl
    have hg : w1.grownBy (w1.setCell ⟨R, 5, none⟩ (.bool true)) (some R) := Go.Lib.grownBy_setB (World.grownBy.refl w1 (some R)) 5 _
    have HS : Hid (SesAt LB (w1.setCell ⟨R, 5, none⟩ (.bool true)) R v ⟨s.step, s.frm, s.rcp, s.text, true⟩) := ⟨H1.out.six.set' (i := 5) _ (by simp), rcp_kept H1.out.rcp hg⟩
    have HG := Lib.hid (Go.Lib.grownBy_trans (gb (R := R) HB1.out) hg)
    obtain ⟨-, -, -, -, d4, d5⟩ := HS.out.six.six
    clear hd hg HO
    go_wp2_with fail
    go_returns
    exact ⟨rfl, by rw [HO2.out]; exact SesPost.of HS.out HG.out⟩
  | false =>
    have hd2 := HD.out _ hd
    cases hlg : s.large with
    | true =>
      rw [hlg] at c5
      have HO2 : Hid (bodyS s S.data.toList = s) := by
        unfold Hid; rw [HO.out, hd, hlg, Bool.true_or, if_pos rfl, ← hlg]
      clear hd HO hlg
      go_wp2_with fail
      go_returns
      exact ⟨rfl, by rw [HO2.out]; exact SesPost.of H1.out (gb HB1.out)⟩
    | false =>
      rw [hlg] at c5
      have HO2 : Hid (bodyS s S.data.toList = ⟨s.step, s.frm, s.rcp, s.text ++ l ++ [13, 10], s.large⟩) := by
        unfold Hid; rw [HO.out, hd, hlg, Bool.or_false, if_neg (by decide)]
      have hx : Hid ((⟨s.text.toArray⟩ : ByteArray) ++ ((⟨l.toArray⟩ : ByteArray) ++ ⟨#[13, 10]⟩) = ⟨(s.text ++ l ++ [13, 10]).toArray⟩) := by
        unfold Hid
        rw [← Lib.mk_data ((⟨s.text.toArray⟩ : ByteArray) ++ ((⟨l.toArray⟩ : ByteArray) ++ ⟨#[13, 10]⟩))]
        congr 2
        simp
      have hg : w1.grownBy (w1.setCell ⟨R, 4, none⟩ (.string ⟨(s.text ++ l ++ [13, 10]).toArray⟩)) (some R) := Go.Lib.grownBy_setB (World.grownBy.refl w1 (some R)) 4 _
      have HS : Hid (SesAt LB (w1.setCell ⟨R, 4, none⟩ (.string ⟨(s.text ++ l ++ [13, 10]).toArray⟩)) R v ⟨s.step, s.frm, s.rcp, s.text ++ l ++ [13, 10], s.large⟩) := ⟨H1.out.six.set' (i := 4) _ (by simp), rcp_kept H1.out.rcp hg⟩
      have HG := Lib.hid (Go.Lib.grownBy_trans (gb (R := R) HB1.out) hg)
      clear hd hg HO hlg
      go_wp2_with fail
      go_returns
      exact ⟨rfl, by rw [HO2.out, hx.out]; exact SesPost.of HS.out HG.out⟩
end Go.Proofs.YtdhepaeephmhiaaDoor
