/- On the way. -/
import Derived.Test.YtpfbkdbblpppdaaGreatDoorEScMem
import Derived.Test.YtpfbkdbblpppdaaGreatDoorEKtA
import Derived.Test.YtpfbkdbblpppdaaGreatDoorEScTree
import Derived.Test.YtpfbkdbblpppdaaGreatDoorEJgD
import Derived.Test.YtpfbkdbblpppdaaGreatDoorEGl
import Derived.Test.YtpfbkdbblpppdaaGreatDoorEJgB
import Derived.Test.YtpfbkdbblpppdaaGreatDoorEJgC
import Derived.Test.YtpfbkdbblpppdaaGreatDoorEScPut
import Derived.Test.YtpfbkdbblpppdaaGreatDoorERuAll
import Derived.Deep.RegionHeld3
import Derived.Deep.RegionLaw
import Derived.Laws.EntriesVeiled
set_option linter.unusedVariables false
set_option linter.unusedSimpArgs false
set_option maxHeartbeats 8000000
set_option maxRecDepth 20000
namespace Go.Proofs.YtpfbkdbblpppdaaGreatDoor.Jd
open Go.RowKit
open Sc (Str cStr)
def idxJ : Option Nat → Int
 | some k => k
 | none => -1
def Enters (N : FuncId) : Prop := ∀ (args : Array Value) (w : World), Sem.run Tryz.prog (callFunc N args) w = .ok (.enter N args) w
def Asks (N : FuncId) (cs : List Value) (P : Str → Bool) (l : List Str) (w : World) : Prop :=
 ∀ s ∈ l, ∀ w', Below w.heap.size w w' → Calls Tryz.prog N (Value.string ⟨s.toArray⟩ :: cs).toArray w' fun e w'' => e = .returned (.bool (P s)) ∧ Below w'.heap.size w' w''
theorem indexS_any (N : FuncId) (cs : List Value) (P : Str → Bool) (v : Value) (l : List Str) (F : Dom) (w : World) (h : SAt cStr w F v l) (hl : l.length ≤ 1000000) (hen : Enters N) (hc : Asks N cs P l w) :
    Calls Tryz.prog 170 #[v, .func (.func N) #[] cs.toArray] w fun e w' => e = .returned (.int .i64 (idxJ (l.findIdx? P))) ∧ Below w.heap.size w w' := by
 obtain ⟨G, cap, rfl, hcap⟩ := h.form
 have H := Lib.hid h; have HC := Lib.hid hc; have HEN := Lib.hid hen
 clear h hc hen
 go_enter Tryz.func170, Tryz.ntmps170
 go_wp2_with fail
 go_loopw [8] (fun i wr => ∃ j : Nat, j ≤ l.length ∧ i = .int .i64 j ∧ (∀ k (hk : k < l.length), k < j → P l[k] = false) ∧ Below w.heap.size w wr) (fun i _ => l.length - (intOf i).toNat)
 case atStart => exact ⟨0, Nat.zero_le _, rfl, (fun k _ h => absurd h (Nat.not_lt_zero _)), Below.refl _ _⟩
 case round =>
  obtain ⟨j, hj, rfl, hno, hb⟩ := hrel
  have HNO := Lib.hid hno
  clear hno
  by_cases hlt : j < l.length
  ·obtain ⟨g, off, rfl, c0⟩ := Sc.str_get H.out (Same.of_below hb) hb.size j hlt
   have hC := Lib.hid (HC.out l[j] (List.getElem_mem _) wr hb)
   cases hp : P l[j] with
   | true =>
    have hfi : Hid (idxJ (l.findIdx? P) = (j : Int)) := by
     have : l.findIdx? P = some j := by
      rw [List.findIdx?_eq_some_iff_getElem]
      exact ⟨hlt, hp, fun k hk => by rw [HNO.out k (by omega) hk]; decide⟩
     unfold Hid; rw [this]; rfl
    rw [hp] at hC
    clear HNO hp
    generalize l[j] = m at c0 hC
    go_wp2_with fail
    rw [HEN.out]
    refine hC.out.mono ?_
    rintro e w1 ⟨rfl, hb1⟩
    have HB := Lib.hid (bt hb hb1)
    clear c0 hb1 hb
    go_wp2_with fail
    go_ret
    exact ⟨by rw [hfi.out]; rfl, HB.out⟩
   | false =>
    have hno2 : Hid (∀ k (hk : k < l.length), k < j + 1 → P l[k] = false) := by
     intro k hk hkj
     rcases Nat.lt_succ_iff_lt_or_eq.1 hkj with h | h
     ·exact HNO.out k hk h
     ·subst h; exact hp
    rw [hp] at hC
    clear HNO hp
    generalize l[j] = m at c0 hC
    go_wp2_with fail
    rw [HEN.out]
    refine hC.out.mono ?_
    rintro e w1 ⟨rfl, hb1⟩
    have HB := Lib.hid (bt hb hb1)
    clear c0 hb1 hb
    go_wp2_with fail
    go_roundw
    case rel => exact ⟨j + 1, hlt, by go_num, hno2.out, HB.out⟩
    case measure => simp [intOf]; omega
  ·obtain rfl : j = l.length := by omega
   have hfi : Hid (idxJ (l.findIdx? P) = -1) := by
    have : l.findIdx? P = none := by
     rw [List.findIdx?_eq_none_iff]
     intro b hb
     obtain ⟨k, hk, rfl⟩ := List.getElem_of_mem hb
     exact HNO.out k hk hk
    unfold Hid; rw [this]; rfl
   clear HNO
   go_wp2_with fail
   go_ret
   exact ⟨by rw [hfi.out]; rfl, hb⟩
theorem idx_any {α : Type} (P : α → Bool) (l : List α) : decide ((0 : Int) ≤ idxJ (l.findIdx? P)) = l.any P := by
 rw [← List.findIdx?_isSome]
 cases l.findIdx? P with
 | none => rfl
 | some k => exact decide_eq_true (by show (0 : Int) ≤ (k : Int); omega)
theorem containsS_any (N : FuncId) (cs : List Value) (P : Str → Bool) (v : Value) (l : List Str) (F : Dom) (w : World) (h : SAt cStr w F v l) (hl : l.length ≤ 1000000) (hen : Enters N) (hc : Asks N cs P l w) :
    Calls Tryz.prog 117 #[v, .func (.func N) #[] cs.toArray] w fun e w' => e = .returned (.bool (l.any P)) ∧ Below w.heap.size w w' := by
 have HI := Lib.hid (indexS_any N cs P v l F w h hl hen hc)
 have hd := idx_any P l
 obtain ⟨G, cap, rfl, -⟩ := h.form
 obtain ⟨z, hz⟩ : ∃ z, z = idxJ (l.findIdx? P) := ⟨_, rfl⟩
 rw [← hz] at HI hd
 clear h hc hz hen
 go_enter Tryz.func117, Tryz.ntmps117
 go_wp2_with fail
 refine HI.out.mono ?_
 rintro e w1 ⟨rfl, hb1⟩
 go_wp2_with fail
 go_ret
 exact ⟨rfl, hb1⟩
end Go.Proofs.YtpfbkdbblpppdaaGreatDoor.Jd
namespace Go.Proofs.YtpfbkdbblpppdaaGreatDoor.Jd
open Go.RowKit
open Sc (Str Tst Cmd)
def toJ : Str := [116, 111]
structure Ltt where
 (fa fd ta td text : Str)
def matchL (k : Int) (s p : Str) : Bool := if k = 1 then foldL s == foldL p else if k = 2 then Lib.contains (foldL s) (foldL p) else mt (pcs (foldL p)) (foldL s)
def fitsL (k : Int) (vs ks : List Str) : Bool := vs.any fun v => ks.any fun q => matchL k v q
def partL (p : Int) (a d : Str) : Str := if chk a d ≠ 0 then [] else if p = 1 then a ++ [64] ++ d else if p = 2 then a else if p = 3 then d else []
def valsJ (fs : List Fld) (n : Str) : List Str := (fs.filter fun f => foldL f.1 == foldL n).map (·.2)
def addrsJ (s : Str) : List (Str × Str) := match listL s with
 | some ys => if ys.length ≤ 20 then ys else []
 | none => []
def partsJ (p : Int) (al : List (Str × Str)) : List Str := al.map fun a => partL p a.1 a.2
def envJ (x : Ltt) (p : Int) (n : Str) : List Str := if n == toJ then partsJ p [(x.ta, x.td)] else partsJ p [(x.fa, x.fd)]
def hdrJ (fs : List Fld) (k p : Int) (n : Str) : List Str := if k = 7 then partsJ p ((valsJ fs n).flatMap addrsJ) else valsJ fs n
def askL (x : Ltt) (fs : List Fld) (k m p : Int) (ns ks : List Str) (o : Bool) (l : Int) : Bool :=
 if k = 1 then true
 else if k = 10 then (if o = true then decide (l < x.text.length) else decide ((x.text.length : Int) < l))
 else if k = 8 then ns.any fun n => fitsL m (envJ x p n) ks
 else if k = 9 then !(ns.any fun n => (valsJ fs n).length == 0)
 else if k = 6 ∨ k = 7 then ns.any fun n => fitsL m (hdrJ fs k p n) ks
 else false
mutual
def tstJ (x : Ltt) (fs : List Fld) : Tst → Bool
 | ⟨k, m, p, ns, ks, o, l, ts⟩ => if k = 3 then !(anyJ x fs ts) else if k = 5 then anyJ x fs ts else if k = 4 then allJ x fs ts else askL x fs k m p ns ks o l
def anyJ (x : Ltt) (fs : List Fld) : List Tst → Bool
 | [] => false
 | t :: l => tstJ x fs t || anyJ x fs l
def allJ (x : Ltt) (fs : List Fld) : List Tst → Bool
 | [] => true
 | t :: l => tstJ x fs t && allJ x fs l
end
theorem anyJ_any (x : Ltt) (fs : List Fld) : ∀ l : List Tst, anyJ x fs l = l.any (tstJ x fs)
 | [] => rfl
 | t :: l => by rw [anyJ, anyJ_any x fs l]; rfl
theorem allJ_all (x : Ltt) (fs : List Fld) : ∀ l : List Tst, allJ x fs l = l.all (tstJ x fs)
 | [] => rfl
 | t :: l => by rw [allJ, allJ_all x fs l]; rfl
theorem tstJ_eq (x : Ltt) (fs : List Fld) (t : Tst) : tstJ x fs t = if t.kind = 3 then !(t.tests.any (tstJ x fs)) else if t.kind = 5 then t.tests.any (tstJ x fs) else if t.kind = 4 then t.tests.all (tstJ x fs) else askL x fs t.kind t.mat t.part t.names t.keys t.over t.limit := by
 obtain ⟨k, m, p, ns, ks, o, l, ts⟩ := t; rw [tstJ, anyJ_any, allJ_all]
theorem valsJ_len (fs : List Fld) (n : Str) : (valsJ fs n).length ≤ fs.length := by
 unfold valsJ; rw [List.length_map]; exact List.length_filter_le _ _
theorem valsJ_mem {fs : List Fld} {n s : Str} (h : s ∈ valsJ fs n) : ∃ f ∈ fs, f.2 = s := by
 unfold valsJ at h
 obtain ⟨f, hf, rfl⟩ := List.mem_map.1 h
 exact ⟨f, (List.mem_filter.1 hf).1, rfl⟩
theorem valsJ_hit (fs : List Fld) (n : Str) (j : Nat) (h : j < fs.length) (hm : (foldL fs[j].1 == foldL n) = true) : valsJ (fs.take (j + 1)) n = valsJ (fs.take j) n ++ [fs[j].2] := by
 unfold valsJ
 rw [List.take_succ_eq_append_getElem h, List.filter_append, List.map_append]
 simp [hm]
theorem valsJ_miss (fs : List Fld) (n : Str) (j : Nat) (h : j < fs.length) (hm : (foldL fs[j].1 == foldL n) = false) : valsJ (fs.take (j + 1)) n = valsJ (fs.take j) n := by
 unfold valsJ
 rw [List.take_succ_eq_append_getElem h, List.filter_append, List.map_append]
 simp [hm]
theorem bareL_chk {loc l : Str} {dr : Str × Str} (h : bareL loc l = some dr) : chk loc dr.1 = 0 := by
 cases l with
 | nil => cases h
 | cons c r =>
  rw [bareL] at h
  split at h
  ·split at h
   ·next hc => cases h; exact hc
   ·cases h
  ·cases h
theorem addrP_chk : ∀ (k : Nat) (f : Bool) (l : Str) (a : (Str × Str) × Str), addrP k f l = some a → chk a.1.1 a.1.2 = 0
 | 0, _, _, _, h => by cases h
 | k + 1, f, l, a, h => by
  rw [addrP] at h
  split at h
  ·obtain ⟨r, -, h2⟩ := Option.bind_eq_some_iff.1 h
   exact addrP_chk k false r a h2
  ·split at h
   ·obtain ⟨dr, h1, h2⟩ := Option.bind_eq_some_iff.1 h
    have hc := bareL_chk h1
    split at h2
    ·cases h2; exact hc
    ·cases h2
   ·split at h
    ·obtain ⟨dr, h1, rfl⟩ := Option.map_eq_some_iff.1 h
     exact bareL_chk h1
    ·split at h
     ·cases h
     ·exact addrP_chk k false _ a h
theorem listP_chk : ∀ (k : Nat) (l : Str) (ys : List (Str × Str)), listP k l = some ys → ∀ y ∈ ys, chk y.1 y.2 = 0
 | 0, _, _, h => by cases h
 | k + 1, l, ys, h => by
  rw [listP] at h
  obtain ⟨ar, h1, h2⟩ := Option.bind_eq_some_iff.1 h
  have hc : chk ar.1.1 ar.1.2 = 0 := addrP_chk _ _ _ _ h1
  split at h2
  ·cases h2
   intro y hy
   rw [List.mem_singleton] at hy; subst hy; exact hc
  ·split at h2
   ·obtain ⟨zs, h3, rfl⟩ := Option.map_eq_some_iff.1 h2
    intro y hy
    rcases List.mem_cons.1 hy with rfl | hy
    ·exact hc
    ·exact listP_chk k _ zs h3 y hy
   ·cases h2
theorem addrsJ_chk {s : Str} : ∀ a ∈ addrsJ s, chk a.1 a.2 = 0 := by
 intro a ha
 unfold addrsJ at ha
 cases h : listL s with
 | none => rw [h] at ha; cases ha
 | some ys =>
  rw [h] at ha
  simp only at ha
  split at ha
  ·exact listP_chk _ _ _ h a ha
  ·cases ha
theorem chk_len {a d : Str} (h : chk a d = 0) : a.length + 1 + d.length ≤ 100 := by
 unfold chk at h
 split at h
 ·split at h
  ·cases h
  ·omega
 ·cases h
theorem partL_len (p : Int) (a d : Str) : (partL p a d).length ≤ 100 := by
 unfold partL
 by_cases h : chk a d = 0
 ·have := chk_len h
  rw [if_neg (by simp [h])]
  split
  ·simp only [List.length_append, List.length_cons, List.length_nil]; omega
  ·split
   ·omega
   ·split
    ·omega
    ·exact Nat.zero_le _
 ·rw [if_pos h]; exact Nat.zero_le _
theorem partsJ_len {p : Int} {al : List (Str × Str)} : ∀ s ∈ partsJ p al, s.length ≤ 2000 := by
 intro s hs
 obtain ⟨a, -, rfl⟩ := List.mem_map.1 hs
 have := partL_len p a.1 a.2
 omega
theorem addrsJ_few (s : Str) : (addrsJ s).length ≤ 20 := by
 unfold addrsJ
 cases listL s with
 | none => exact Nat.zero_le _
 | some ys =>
  simp only
  split
  ·assumption
  ·exact Nat.zero_le _
end Go.Proofs.YtpfbkdbblpppdaaGreatDoor.Jd
namespace Go.Proofs.YtpfbkdbblpppdaaGreatDoor.Jd
open Go.RowKit
open Sc (Str cStr)
theorem ent_fits2 : Enters 172 := fun _ _ => by kernel_rfl
theorem ent_fits1 : Enters 171 := fun _ _ => by kernel_rfl
theorem match_any (z : Int) (s p : Str) (m : Int) (w : World) (hz : 1 ≤ z ∧ z ≤ 3) (hs : s.length ≤ 2000) (hp : p.length ≤ 100) (hm : w.cell? ⟨6, 0, none⟩ = some (.int .i64 m)) :
    Calls Tryz.prog 173 #[.int .i64 z, .string ⟨s.toArray⟩, .string ⟨p.toArray⟩] w fun e w' => e = .returned (.tuple #[.bool (matchL z s p), .int .i64 0]) ∧ Below w.heap.size w w' := by
 have hs' : (⟨s.toArray⟩ : ByteArray).size ≤ 2000 := hs
 have hp' : (⟨p.toArray⟩ : ByteArray).size ≤ 100 := hp
 have h3 : z = 1 ∨ z = 2 ∨ z = 3 := by omega
 rcases h3 with rfl | rfl | rfl
 ·exact match1_any _ _ w hs' hp'
 ·exact match2_any _ _ m w hm hs' hp'
 ·exact match3_any _ _ w hs' hp'
theorem fits2_any (k s : Str) (Nm Nv : Nat) (z m : Int) (w : World) (hz : 1 ≤ z ∧ z ≤ 3) (hs : s.length ≤ 2000) (hk : k.length ≤ 100) (hc : w.cell? ⟨Nm, 0, none⟩ = some (.int .i64 z)) (hv : w.cell? ⟨Nv, 0, none⟩ = some (.string ⟨s.toArray⟩)) (hm : w.cell? ⟨6, 0, none⟩ = some (.int .i64 m)) :
    Calls Tryz.prog 172 #[.string ⟨k.toArray⟩, .pointer (some ⟨Nm, 0, none⟩), .pointer (some ⟨Nv, 0, none⟩)] w fun e w' => e = .returned (.bool (matchL z s k)) ∧ Below w.heap.size w w' := by
 have HM := Lib.hid (match_any z s k m w hz hs hk hm)
 obtain ⟨b, hb⟩ : ∃ b, b = matchL z s k := ⟨_, rfl⟩
 rw [← hb] at HM ⊢
 clear hb hz hs hk hm
 go_enter Tryz.func172, Tryz.ntmps172
 go_wp2_with fail
 refine HM.out.mono ?_
 rintro e w1 ⟨rfl, hb1⟩
 have HB := Lib.hid hb1
 clear hb1 HM
 go_wp2_with fail
 go_ret
 exact ⟨rfl, HB.out⟩
def KeysOk (w : World) (F : Dom) (v : Value) (ks : List Str) : Prop := SAt cStr w F v ks ∧ (∀ k ∈ ks, k.length ≤ 100) ∧ ks.length ≤ 1000000
theorem fits1_any (s : Str) (Nk Nm : Nat) (z m : Int) (kv : Value) (ks : List Str) (F : Dom) (w : World) (hz : 1 ≤ z ∧ z ≤ 3) (hs : s.length ≤ 2000) (hks : KeysOk w F kv ks) (hk : w.cell? ⟨Nk, 0, none⟩ = some kv) (hc : w.cell? ⟨Nm, 0, none⟩ = some (.int .i64 z)) (hm : w.cell? ⟨6, 0, none⟩ = some (.int .i64 m)) :
    Calls Tryz.prog 171 #[.string ⟨s.toArray⟩, .pointer (some ⟨Nk, 0, none⟩), .pointer (some ⟨Nm, 0, none⟩)] w fun e w' => e = .returned (.bool (ks.any fun q => matchL z s q)) ∧ Below w.heap.size w w' := by
 obtain ⟨hks, hkl, hkn⟩ := hks
 have hA := ba (Below.refl w.heap.size w) (.cells #[.string ⟨s.toArray⟩] 9)
 have hv := alloc_cell w #[.string ⟨s.toArray⟩] 9 0 _ rfl
 have hk1 := moved hk hA (Nat.le_refl _); have hc1 := moved hc hA (Nat.le_refl _); have hm1 := moved hm hA (Nat.le_refl _)
 have HC : Hid (Calls Tryz.prog 117 #[kv, .func (.func 172) #[] #[.pointer (some ⟨Nm, 0, none⟩), .pointer (some ⟨w.heap.size, 0, none⟩)]] (w.alloc (.cells #[.string ⟨s.toArray⟩] 9)) fun e w' => e = .returned (.bool (ks.any fun q => matchL z s q)) ∧ Below (w.alloc (.cells #[.string ⟨s.toArray⟩] 9)).heap.size (w.alloc (.cells #[.string ⟨s.toArray⟩] 9)) w') :=
  containsS_any 172 [.pointer (some ⟨Nm, 0, none⟩), .pointer (some ⟨w.heap.size, 0, none⟩)] (fun q => matchL z s q) kv ks F _ (hks.down hA) hkn ent_fits2 fun q hq w' hb =>
   fits2_any q s Nm w.heap.size z m w' hz hs (hkl q hq) (moved hc1 hb (Nat.le_refl _)) (moved hv hb (Nat.le_refl _)) (moved hm1 hb (Nat.le_refl _))
 have HA := Lib.hid hA
 obtain ⟨G, cap, rfl, -⟩ := hks.form
 obtain ⟨b, hb⟩ : ∃ b, b = ks.any fun q => matchL z s q := ⟨_, rfl⟩
 rw [← hb] at HC ⊢
 clear hb hz hs hm hks hkl hc hc1 hm1 hk hv hA
 go_enter Tryz.func171, Tryz.ntmps171
 go_wp2_with fail
 refine HC.out.mono ?_
 rintro e w1 ⟨rfl, hb1⟩
 have HB := Lib.hid (bt HA.out hb1)
 clear hb1 HC
 go_wp2_with fail
 go_ret
 exact ⟨rfl, HB.out⟩
theorem fits_any (z m : Int) (vv kv : Value) (vs ks : List Str) (F F' : Dom) (w : World) (hz : 1 ≤ z ∧ z ≤ 3) (hv : SAt cStr w F' vv vs) (hvl : ∀ s ∈ vs, s.length ≤ 2000) (hvn : vs.length ≤ 1000000) (hks : KeysOk w F kv ks) (hm : w.cell? ⟨6, 0, none⟩ = some (.int .i64 m)) :
    Calls Tryz.prog 119 #[.int .i64 z, vv, kv] w fun e w' => e = .returned (.bool (fitsL z vs ks)) ∧ Below w.heap.size w w' := by
 have hA := ba (ba (Below.refl w.heap.size w) (.cells #[.int .i64 z] 3)) (.cells #[kv] 37)
 have hb1 := ba (Below.refl (w.alloc (.cells #[.int .i64 z] 3)).heap.size (w.alloc (.cells #[.int .i64 z] 3))) (.cells #[kv] 37)
 have hc := moved (alloc_cell w #[.int .i64 z] 3 0 _ rfl) hb1 (Nat.le_refl _)
 have hk := alloc_cell (w.alloc (.cells #[.int .i64 z] 3)) #[kv] 37 0 _ rfl
 rw [World.size_alloc] at hk
 have hm1 := moved hm hA (Nat.le_refl _)
 obtain ⟨W2, hW2⟩ : ∃ W2, W2 = (w.alloc (.cells #[.int .i64 z] 3)).alloc (.cells #[kv] 37) := ⟨_, rfl⟩
 rw [← hW2] at hA hc hk hm1
 have HC : Hid (Calls Tryz.prog 117 #[vv, .func (.func 171) #[] #[.pointer (some ⟨w.heap.size + 1, 0, none⟩), .pointer (some ⟨w.heap.size, 0, none⟩)]] W2 fun e w' => e = .returned (.bool (fitsL z vs ks)) ∧ Below W2.heap.size W2 w') :=
  containsS_any 171 [.pointer (some ⟨w.heap.size + 1, 0, none⟩), .pointer (some ⟨w.heap.size, 0, none⟩)] (fun s => ks.any fun q => matchL z s q) vv vs F' W2 (hv.down hA) hvn ent_fits1 fun s hs w' hb =>
   fits1_any s (w.heap.size + 1) w.heap.size z m kv ks F w' hz (hvl s hs) ⟨(hks.1.down hA).down hb, hks.2⟩ (moved hk hb (Nat.le_refl _)) (moved hc hb (Nat.le_refl _)) (moved hm1 hb (Nat.le_refl _))
 have HA := Lib.hid hA
 obtain ⟨G, cap, rfl, -⟩ := hks.1.form
 obtain ⟨G', cap', rfl, -⟩ := hv.form
 obtain ⟨b, hb⟩ : ∃ b, b = fitsL z vs ks := ⟨_, rfl⟩
 rw [← hb] at HC ⊢
 rw [hW2] at HC HA
 clear hb hz hm hks hvl hc hm1 hk hv hA hb1 hW2
 go_enter Tryz.func119, Tryz.ntmps119
 go_wp2_with fail
 refine HC.out.mono ?_
 rintro e w1 ⟨rfl, hb1⟩
 have HB := Lib.hid (bt HA.out hb1)
 clear hb1 HC
 go_wp2_with fail
 go_ret
 exact ⟨rfl, HB.out⟩
end Go.Proofs.YtpfbkdbblpppdaaGreatDoor.Jd
namespace Go.Proofs.YtpfbkdbblpppdaaGreatDoor.Jd
open Go.RowKit
open Sc (Str cStr strC)
theorem infoS : (Tryz.prog.info? 9).map (fun i => (i.zero, i.size, i.bytes)) = some (some (.string ⟨#[]⟩), 1, 16) := by kernel_rfl
theorem flat_snoc (l : List Str) (s : Str) : (l ++ [s]).flatMap strC = l.flatMap strC ++ [.string ⟨s.toArray⟩] := by simp [strC]
theorem flat_len (l : List Str) : (l.flatMap strC).length = l.length := by
 induction l with
 | nil => rfl
 | cons s l ih => rw [List.flatMap_cons, List.length_append, ih]; simp [strC]; omega
def addrC (a : Str × Str) : List Value := [.string ⟨a.1.toArray⟩, .string ⟨a.2.toArray⟩]
def cAddr : Cod (Str × Str) := Cod.flat 2 addrC (fun _ => rfl)
theorem addr_get {w wr : World} {F : Dom} {G : Option Addr} {n cap : Nat} {l : List (Str × Str)} (h : SAt cAddr w F (.slice G n cap) l) (hs : Same F w wr) (hz : w.heap.size ≤ wr.heap.size) (j : Nat) (hj : j < l.length) :
    ∃ g off, G = some ⟨g, off, none⟩ ∧ wr.cell? ⟨g, off + j * 2, none⟩ = some (.string ⟨l[j].1.toArray⟩) ∧ wr.cell? ⟨g, off + j * 2 + 1, none⟩ = some (.string ⟨l[j].2.toArray⟩) := by
 obtain ⟨g, off, vs, hG, hF, hg, hv, hc⟩ := (h.stable hs hz).get j hj
 obtain rfl : vs = addrC l[j] := hv
 exact ⟨g, off, hG, hc 0 _ rfl, hc 1 _ rfl⟩
theorem part_str (p : Int) (a d : Str) : (partV p ⟨a.toArray⟩ ⟨d.toArray⟩).1 = ⟨(partL p a d).toArray⟩ := by
 unfold partV partL
 show (if chk a d ≠ 0 then _ else _ : ByteArray × Nat).1 = _
 split
 ·rfl
 ·split
  ·simp only []
   apply congrArg ByteArray.mk
   simp
  ·split
   ·rfl
   ·split
    ·rfl
    ·rfl
def Short (al : List (Str × Str)) : Prop := ∀ a ∈ al, a.1.length ≤ 1000000 ∧ a.2.length ≤ 1000000
theorem parts_any (p m : Int) (v : Value) (al : List (Str × Str)) (F : Dom) (w : World) (hv : SAt cAddr w F v al) (hs : Short al) (hn : al.length ≤ 100000) (hm : w.cell? ⟨6, 0, none⟩ = some (.int .i64 m)) :
    Calls Tryz.prog 120 #[.int .i64 p, v] w fun e w' => (∃ u, e = .returned u ∧ w'.ownsRow w.heap.size 9 1 u (partsJ p al).length ((partsJ p al).flatMap strC)) ∧ Below w.heap.size w w' := by
 obtain ⟨i0, hi, hz0, hz1, hz2⟩ := Sc.info_three infoS
 have HI := Lib.hid hi; have HZ0 := Lib.hid hz0; have HZ1 := Lib.hid hz1; have HZ2 := Lib.hid hz2
 clear hi hz0 hz1 hz2
 obtain ⟨G, cap, rfl, -⟩ := hv.form
 have HF : Hid (∀ j (h : j < al.length) (wr : World), Below w.heap.size w wr → ∃ g off, G = some ⟨g, off, none⟩ ∧ ∃ (A D : ByteArray) (s : Str) (c : Nat), wr.cell? ⟨g, off + j * 2, none⟩ = some (.string A) ∧ wr.cell? ⟨g, off + j * 2 + 1, none⟩ = some (.string D) ∧
     (∀ w', Below w.heap.size w w' → Calls Tryz.prog 34 #[.int .i64 p, .agg #[.string A, .string D]] w' fun e w'' => e = .returned (.tuple #[.string ⟨s.toArray⟩, .int .i64 c]) ∧ Below w'.heap.size w' w'') ∧
     Hid (partsJ p (al.take (j + 1)) = partsJ p (al.take j) ++ [s])) := by
  intro j h wr hb
  obtain ⟨g, off, hG, h0, h1⟩ := addr_get hv (Same.of_below hb) hb.size j h
  have hsz := hs al[j] (List.getElem_mem h)
  refine ⟨g, off, hG, _, _, partL p al[j].1 al[j].2, (partV p ⟨al[j].1.toArray⟩ ⟨al[j].2.toArray⟩).2, h0, h1, fun w' hb' => ?_, ?_⟩
  ·have := part_any p ⟨al[j].1.toArray⟩ ⟨al[j].2.toArray⟩ m w' hsz.1 hsz.2 (moved hm hb' (Nat.le_refl _))
   rw [part_str] at this
   exact this
  ·unfold Hid partsJ
   rw [List.take_succ_eq_append_getElem h, List.map_append]; rfl
 have HPL : Hid (∀ j, (partsJ p (al.take j)).length ≤ 100000) := fun j => by
  unfold partsJ; rw [List.length_map, List.length_take]; omega
 have hlen : (partsJ p al).length = al.length := by unfold partsJ; rw [List.length_map]
 clear hv hs hm
 go_enter Tryz.func120, Tryz.ntmps120
 go_wp2_with fail
 go_loopw [5, 12] (fun u i wr => ∃ j : Nat, j ≤ al.length ∧ i = .int .i64 j ∧ wr.ownsRow w.heap.size 9 1 u (partsJ p (al.take j)).length ((partsJ p (al.take j)).flatMap strC) ∧ Below w.heap.size w wr) (fun _ i _ => al.length - (intOf i).toNat)
 case atStart => exact ⟨0, Nat.zero_le _, rfl, World.ownsRow_nil _ _ _ _, Below.refl _ _⟩
 case round =>
  obtain ⟨j, hj, rfl, hown, hbel⟩ := hrel
  by_cases hlt : j < al.length
  ·obtain ⟨g, off, hG, N, V, s, c, h0, h1, hmt, hval⟩ := HF.out j hlt wr hbel
   subst hG
   have hmt := Lib.hid hmt
   have p0 := alloc_cell wr #[.string N, .string V] 31 0 _ rfl
   have p1 := alloc_cell wr #[.string N, .string V] 31 1 _ rfl
   have hbA := ba (Below.refl _ wr) (.cells #[.string N, .string V] 31)
   have hownA := hown.alloc (.cells #[.string N, .string V] 31)
   obtain ⟨W1, hW1⟩ : ∃ W1, W1 = wr.alloc (.cells #[.string N, .string V] 31) := ⟨_, rfl⟩
   have hbW := bt hbel (hW1 ▸ hbA)
   have HCL := Lib.hid (hmt.out W1 hbW)
   clear hmt
   go_wp2_with fail
   rw [← hW1] at p0 p1 hbA hownA ⊢
   clear hW1 h0 h1 hown
   refine HCL.out.mono ?_
   rintro e w2 ⟨rfl, hb2⟩
   have hown2 := row_down hownA hb2
   have hw2 := bt hbW hb2
   have hsz2 : w.heap.size ≤ w2.heap.size := hw2.size
   clear p0 p1 hbA hownA hb2 hbel hbW HCL
   have hvl := HPL.out j
   obtain ⟨L, hL⟩ : ∃ L, L = partsJ p (al.take j) := ⟨_, rfl⟩
   rw [← hL] at hown2 hvl hval
   have HL := Lib.hid hL
   have hcl := flat_len L
   clear hL
   go_wp2_with (at_builtin; refine wpList_append_lies _ (by rfl) _ _ _ (by rfl) w.heap.size 9 i0 _ 1 16 Tryz.underlying37 HI.out HZ0.out HZ1.out HZ2.out rfl (by omega) u5 L.length (L.flatMap strC) (by rfl) (hown2.alloc _) ⟨w2.heap.size, 0, none⟩ 1 1 [.string ⟨s.toArray⟩] (by rfl) (by rfl) (news_of w2 _ _) (by simp [Value.oneCell']) (by omega) (by unfold maxLen; omega) (by omega) (by simp; omega) (w2.heap.size + 1) (by simp) ?_)
   intro g2 cap2 w4 hown4 hgrow _ hglt
   have lb := below_row (ba hw2 (.cells #[.string ⟨s.toArray⟩] 9)) (Nat.le_refl _) (hown2.alloc (.cells #[.string ⟨s.toArray⟩] 9)) (Nat.le_refl _) hgrow
   have hown5 : w4.ownsRow w.heap.size 9 1 (.slice (some ⟨g2, 0, none⟩) (L.length + 1) cap2) (partsJ p (al.take (j + 1))).length ((partsJ p (al.take (j + 1))).flatMap strC) := by
    rw [hval.out, flat_snoc, List.length_append]; exact hown4
   clear hown4 hgrow hglt hown2 hw2
   go_wp2_with fail
   go_roundw
   case rel => exact ⟨j + 1, by omega, by go_num, hown5, lb⟩
   case measure => simp [intOf]; omega
  ·obtain rfl : j = al.length := by omega
   rw [List.take_length] at hown
   clear HF
   go_wp2_with fail
   go_ret
   exact ⟨⟨_, rfl, hown⟩, hbel⟩
def FldsOk (w : World) (v : Value) (fs : List Fld) : Prop := FldsAt w v fs ∧ (∀ f ∈ fs, f.1.length ≤ 2000 ∧ f.2.length ≤ 2000) ∧ fs.length ≤ 30
theorem FldsOk.down {w w' : World} {v : Value} {fs : List Fld} (h : FldsOk w v fs) (hb : Below w.heap.size w w') : FldsOk w' v fs := ⟨h.1.down hb, h.2⟩
theorem values_any (v b : Value) (fs : List Fld) (n : Str) (w : World) (hv : FldsOk w v fs) (hn : n.length ≤ 100) (hb : ∃ s, b = .string s) :
    Calls Tryz.prog 122 #[.agg #[v, b], .string ⟨n.toArray⟩] w fun e w' => (∃ u, e = .returned u ∧ w'.ownsRow w.heap.size 9 1 u (valsJ fs n).length ((valsJ fs n).flatMap strC)) ∧ Below w.heap.size w w' := by
 obtain ⟨body, rfl⟩ := hb
 obtain ⟨i0, hi, hz0, hz1, hz2⟩ := Sc.info_three infoS
 have HI := Lib.hid hi; have HZ0 := Lib.hid hz0; have HZ1 := Lib.hid hz1; have HZ2 := Lib.hid hz2
 clear hi hz0 hz1 hz2
 obtain ⟨R, hR⟩ : ∃ R, R = w.heap.size := ⟨_, rfl⟩
 obtain ⟨⟨G, cap, hvv, hcells⟩, hlens, hlen⟩ := hv
 subst hvv
 have HF : Hid (∀ j (h : j < fs.length) (wr : World), Below w.heap.size w wr → ∃ g, G = some ⟨g, 0, none⟩ ∧ ∃ (N V : ByteArray) (s : Str) (t : Bool), wr.cell? ⟨g, j * 2, none⟩ = some (.string N) ∧ wr.cell? ⟨g, j * 2 + 1, none⟩ = some (.string V) ∧ V = ⟨s.toArray⟩ ∧
     (∀ w, Calls Tryz.prog 173 #[.int .i64 1, .string N, .string ⟨n.toArray⟩] w fun e w' => e = .returned (.tuple #[.bool t, .int .i64 0]) ∧ Below w.heap.size w w') ∧
     Hid ((t = true → valsJ (fs.take (j + 1)) n = valsJ (fs.take j) n ++ [s]) ∧ (t = false → valsJ (fs.take (j + 1)) n = valsJ (fs.take j) n))) := by
  intro j h wr hb
  obtain ⟨g, hG, hg, h0, h1⟩ := hcells j fs[j] (List.getElem?_eq_getElem h)
  have hmem := hlens fs[j] (List.getElem_mem h)
  refine ⟨g, hG, ⟨fs[j].1.toArray⟩, ⟨fs[j].2.toArray⟩, fs[j].2, foldL fs[j].1 == foldL n, moved h0 hb (Nat.le_refl _), moved h1 hb (Nat.le_refl _), rfl, fun w => match1_any _ _ w hmem.1 hn, fun ht => valsJ_hit fs _ j h ht, fun ht => valsJ_miss fs _ j h ht⟩
 have hb0 : Below w.heap.size w (w.alloc (.cells #[.slice G fs.length cap, .string body] 100)) := ba (Below.refl _ w) _
 have hbox0 := alloc_cell w #[.slice G fs.length cap, .string body] 100 0 (.slice G fs.length cap) rfl
 have hz1 : (w.alloc (.cells #[.slice G fs.length cap, .string body] 100)).heap.size = R + 1 := by rw [hR]; simp
 obtain ⟨W0, hW0⟩ : ∃ W0, W0 = w.alloc (.cells #[.slice G fs.length cap, .string body] 100) := ⟨_, rfl⟩
 rw [← hW0] at hb0 hbox0 hz1
 rw [← hR] at hbox0
 have HW0 := Lib.hid hW0.symm
 have HR := Lib.hid hR
 have HVL : Hid (∀ j, (valsJ (fs.take j) n).length ≤ 30) := fun j => by
  have h1 := valsJ_len (fs.take j) n
  rw [List.length_take] at h1
  omega
 clear hW0 hR hcells hlens hn
 go_enter Tryz.func122, Tryz.ntmps122
 go_upto_region 2 with fail
 rw [HW0.out, ← HR.out]
 go_wp2_with fail
 go_loopw [5, 13] (fun u i wr => ∃ j : Nat, j ≤ fs.length ∧ i = .int .i64 j ∧ wr.ownsRow (R + 1) 9 1 u (valsJ (fs.take j) n).length ((valsJ (fs.take j) n).flatMap strC) ∧ Below w.heap.size w wr ∧ R + 1 ≤ wr.heap.size) (fun _ i _ => fs.length - (intOf i).toNat)
 case atStart => exact ⟨0, Nat.zero_le _, rfl, World.ownsRow_nil _ _ _ _, hb0, by omega⟩
 case round =>
  clear hbox0 hb0 hz1
  obtain ⟨j, hj, rfl, hown, hbel, hsz⟩ := hrel
  by_cases hlt : j < fs.length
  ·obtain ⟨g, hG, N, V, s, t, h0, h1, hVs, hmt, hval⟩ := HF.out j hlt wr hbel
   subst hG
   have hmt := Lib.hid hmt
   have HVs := Lib.hid hVs
   clear hVs
   have p0 := alloc_cell wr #[.string N, .string V] 104 0 _ rfl
   have p1 := alloc_cell wr #[.string N, .string V] 104 1 _ rfl
   have hbA := ba (Below.refl _ wr) (.cells #[.string N, .string V] 104)
   have hownA := hown.alloc (.cells #[.string N, .string V] 104)
   obtain ⟨W1, hW1⟩ : ∃ W1, W1 = wr.alloc (.cells #[.string N, .string V] 104) := ⟨_, rfl⟩
   go_wp2_with fail
   rw [← hW1] at p0 p1 hbA hownA ⊢
   clear hW1 h0 h1 hown
   refine (hmt.out _).mono ?_
   rintro e w2 ⟨rfl, hb2⟩
   have q1 := moved p1 hb2 (Nat.le_refl _)
   have hown2 := row_down hownA hb2
   have hw2 := bt (bt hbel hbA) hb2
   have hsz2 : R + 1 ≤ w2.heap.size := Nat.le_trans hsz (Nat.le_trans hbA.size hb2.size)
   clear p0 p1 hbA hownA hb2 hbel hsz hmt
   cases t with
   | false =>
    have hv2 := Lib.hid (hval.out.2 rfl)
    clear hval
    go_wp2_with fail
    go_roundw
    case rel => exact ⟨j + 1, by omega, by go_num, by rw [hv2.out]; exact hown2, hw2, hsz2⟩
    case measure => simp [intOf]; omega
   | true =>
    have hv1 := Lib.hid (hval.out.1 rfl)
    have hvl := HVL.out j
    obtain ⟨L, hL⟩ : ∃ L, L = valsJ (fs.take j) n := ⟨_, rfl⟩
    rw [← hL] at hown2 hvl
    have HL := Lib.hid hL
    have hcl := flat_len L
    clear hval hL
    go_wp2_with (at_builtin; refine wpList_append_lies _ (by rfl) _ _ _ (by rfl) (R + 1) 9 i0 _ 1 16 Tryz.underlying37 HI.out HZ0.out HZ1.out HZ2.out rfl (by omega) u5 L.length (L.flatMap strC) (by rfl) (hown2.alloc _) ⟨w2.heap.size, 0, none⟩ 1 1 [.string V] (by rfl) (by rfl) (news_of w2 _ _) (by simp [Value.oneCell']) (by omega) (by unfold maxLen; omega) (by omega) (by simp; omega) (w2.heap.size + 1) (by simp) ?_)
    intro g2 cap2 w4 hown4 hgrow _ hglt
    have ap := ba (Below.refl _ w2) (.cells #[.string V] 9)
    have lb := below_row (ba hw2 (.cells #[.string V] 9)) (Nat.le_refl _) (hown2.alloc (.cells #[.string V] 9)) (by have := HR.out; omega) hgrow
    have ls : R + 1 ≤ w4.heap.size := Nat.le_trans hsz2 (Nat.le_trans ap.size hgrow.size)
    have hown5 : w4.ownsRow (R + 1) 9 1 (.slice (some ⟨g2, 0, none⟩) (L.length + 1) cap2) (valsJ (fs.take (j + 1)) n).length ((valsJ (fs.take (j + 1)) n).flatMap strC) := by
     rw [hv1.out, ← HL.out, flat_snoc, List.length_append, ← HVs.out]; exact hown4
    clear hown4 hgrow hglt ap hown2 hw2 hsz2 q1
    go_wp2_with fail
    go_roundw
    case rel => exact ⟨j + 1, by omega, by go_num, hown5, lb, ls⟩
    case measure => simp [intOf]; omega
  ·obtain rfl : j = fs.length := by omega
   rw [List.take_length] at hown
   clear HF
   go_wp2_with fail
   go_ret
   exact ⟨⟨_, rfl, row_base (by have := HR.out; omega) hown⟩, hbel⟩
theorem wp_here {P : Program} {c : Code} {Q : Exit → Act → World → Prop} {a : Act} {W : World} (R : World → Prop) (hR : R W) (h : ∀ W, R W → c.wp P Q a W) : c.wp P Q a W := h W hR
def lttC (x : Ltt) : List Value := [.string ⟨x.fa.toArray⟩, .string ⟨x.fd.toArray⟩, .string ⟨x.ta.toArray⟩, .string ⟨x.td.toArray⟩, .string ⟨x.text.toArray⟩]
def LttOk (x : Ltt) : Prop := (x.fa.length ≤ 1000000 ∧ x.fd.length ≤ 1000000) ∧ (x.ta.length ≤ 1000000 ∧ x.td.length ≤ 1000000) ∧ x.text.length ≤ 2000
theorem one_addr (V : World) (b : Nat) (a d : Str) (h0 : V.cell? ⟨b, 0, none⟩ = some (.string ⟨a.toArray⟩)) (h1 : V.cell? ⟨b, 1, none⟩ = some (.string ⟨d.toArray⟩)) : SAt cAddr V (fun c => c = b) (.slice (some ⟨b, 0, none⟩) 1 1) [(a, d)] := by
 refine ⟨_, 1, rfl, Nat.le_refl _, fun i x hi => ?_⟩
 match i, hi with
 | 0, hi =>
  obtain rfl : (a, d) = x := Option.some.inj hi
  refine ⟨b, 0, rfl, rfl, World.block_lt_of_cell? _ _ h0, addrC (a, d), rfl, fun j u hj => ?_⟩
  match j, hj with
  | 0, hj => obtain rfl := Option.some.inj hj; exact h0
  | 1, hj => obtain rfl := Option.some.inj hj; exact h1
  | j + 2, hj => simp [addrC] at hj
 | i + 1, hi => exact absurd hi (by simp)
theorem ltt_get {w : World} {L : Nat} {x : Ltt} (h : Has w L (lttC x)) : w.cell? ⟨L, 0, none⟩ = some (.string ⟨x.fa.toArray⟩) ∧ w.cell? ⟨L, 1, none⟩ = some (.string ⟨x.fd.toArray⟩) ∧ w.cell? ⟨L, 2, none⟩ = some (.string ⟨x.ta.toArray⟩) ∧ w.cell? ⟨L, 3, none⟩ = some (.string ⟨x.td.toArray⟩) ∧ w.cell? ⟨L, 4, none⟩ = some (.string ⟨x.text.toArray⟩) :=
 ⟨h.1 0 _ rfl, h.1 1 _ rfl, h.1 2 _ rfl, h.1 3 _ rfl, h.1 4 _ rfl⟩
theorem ask1_any (n : Str) (x : Ltt) (L T : Nat) (z p m : Int) (kv : Value) (ks : List Str) (F : Dom) (w : World) (hL : Has w L (lttC x)) (h1 : w.cell? ⟨T, 1, none⟩ = some (.int .i64 z)) (h2 : w.cell? ⟨T, 2, none⟩ = some (.int .i64 p)) (h4 : w.cell? ⟨T, 4, none⟩ = some kv) (hz : 1 ≤ z ∧ z ≤ 3) (hks : KeysOk w F kv ks) (hx : LttOk x) (hm : w.cell? ⟨6, 0, none⟩ = some (.int .i64 m)) :
    Calls Tryz.prog 118 #[.string ⟨n.toArray⟩, .pointer (some ⟨L, 0, none⟩), .pointer (some ⟨T, 0, none⟩)] w fun e w' => e = .returned (.bool (fitsL z (envJ x p n) ks)) ∧ Below w.heap.size w w' := by
 obtain ⟨l0, l1, l2, l3, -⟩ := ltt_get hL
 obtain ⟨G, cap, rfl, -⟩ := hks.1.form
 have HKS := Lib.hid hks
 obtain ⟨hxf, hxt, -⟩ := hx
 obtain ⟨b, hb⟩ : ∃ b, b = fitsL z (envJ x p n) ks := ⟨_, rfl⟩
 obtain ⟨q, hq⟩ : ∃ q, q = (n == toJ) := ⟨_, rfl⟩
 have HEND : Hid (∀ (a d : Str), (a.length ≤ 1000000 ∧ d.length ≤ 1000000) → b = fitsL z (partsJ p [(a, d)]) ks → ∀ W, Below w.heap.size w W → 
     (∀ V c, V.cell? ⟨c, 0, none⟩ = some (.string ⟨a.toArray⟩) → V.cell? ⟨c, 1, none⟩ = some (.string ⟨d.toArray⟩) → Below w.heap.size w V → Calls Tryz.prog 120 #[.int .i64 p, .slice (some ⟨c, 0, none⟩) 1 1] V fun e w' => (∃ u, e = .returned u ∧ SAt cStr w' (fun _ => True) u (partsJ p [(a, d)])) ∧ Below V.heap.size V w') ∧
     (∀ V u, SAt cStr V (fun _ => True) u (partsJ p [(a, d)]) → Below w.heap.size w V → Calls Tryz.prog 119 #[.int .i64 z, u, .slice G ks.length cap] V fun e w' => e = .returned (.bool b) ∧ Below V.heap.size V w')) := by
  intro a d had hbe W hW
  refine ⟨fun V c c0 c1 hV => (parts_any p m _ [(a, d)] _ V (one_addr V c a d c0 c1) (fun y hy => by obtain rfl := List.mem_singleton.1 hy; exact had) (by simp) (moved hm hV (Nat.le_refl _))).mono ?_, fun V u hu hV => ?_⟩
  ·rintro e w' ⟨⟨u, rfl, hu⟩, hb'⟩
   exact ⟨⟨u, rfl, SAt.of_row (f := strC) (hf := fun _ => rfl) hu (fun _ _ => trivial)⟩, hb'⟩
  ·rw [hbe]
   exact fits_any z m u _ _ ks F _ V hz hu partsJ_len (by simp [partsJ]) ⟨HKS.out.1.down hV, HKS.out.2⟩ (moved hm hV (Nat.le_refl _))
 have HB1 : Hid (q = true → b = fitsL z (partsJ p [(x.ta, x.td)]) ks) := fun h => by rw [hb, envJ, ← hq, if_pos h]
 have HB2 : Hid (q = false → b = fitsL z (partsJ p [(x.fa, x.fd)]) ks) := fun h => by rw [hb, envJ, ← hq, if_neg (by rw [h]; decide)]
 have HT : Hid (∀ W, Below w.heap.size w W → W.cell? ⟨T, 1, none⟩ = some (.int .i64 z) ∧ W.cell? ⟨T, 2, none⟩ = some (.int .i64 p) ∧ W.cell? ⟨T, 4, none⟩ = some (.slice G ks.length cap)) := fun W hW => ⟨moved h1 hW (Nat.le_refl _), moved h2 hW (Nat.le_refl _), moved h4 hW (Nat.le_refl _)⟩
 unfold toJ at hq
 rw [← hb]
 clear hb hks hL h1 h2 h4 hm HKS
 go_enter Tryz.func118, Tryz.ntmps118
 cases hqq : q with
 | true =>
  rw [hqq] at hq
  have hq' : (n == [116, 111]) = true := hq.symm
  have HE := Lib.hid (HEND.out x.ta x.td hxt (HB1.out hqq))
  have hA0 := ba (Below.refl w.heap.size w) (.cells #[.string ⟨x.fa.toArray⟩, .string ⟨x.fd.toArray⟩] 31)
  have l2' := moved l2 hA0 (Nat.le_refl _); have l3' := moved l3 hA0 (Nat.le_refl _)
  clear hA0
  have HA := Lib.hid (ba (Below.refl w.heap.size w) (.cells #[.string ⟨x.ta.toArray⟩, .string ⟨x.td.toArray⟩] 31))
  have HH := Lib.hid (Has.alloc w [.string ⟨x.ta.toArray⟩, .string ⟨x.td.toArray⟩] 31)
  clear HB1 HB2 HEND hq hqq hxf hxt
  go_upto_region 4 with fail
  refine wp_here (R := fun W => Has W w.heap.size [.string ⟨x.ta.toArray⟩, .string ⟨x.td.toArray⟩] ∧ Below w.heap.size w W) ⟨HH.out, HA.out⟩ (fun W hW => ?_)
  obtain ⟨hH, hB⟩ := hW
  obtain ⟨N, hN⟩ : ∃ N, N = w.heap.size := ⟨_, rfl⟩
  rw [← hN] at hH ⊢
  have HN := Lib.hid hN
  have hdr := Below.drew (Below.refl W.heap.size W)
  have HBW := Lib.hid (bt hB hdr)
  have HHD := Lib.hid (hH.down hdr)
  have HS : Hid (∀ V, Below w.heap.size w V → (∀ i u, ([.string ⟨x.ta.toArray⟩, .string ⟨x.td.toArray⟩] : List Value)[i]? = some u → V.cell? ⟨N, i, none⟩ = some u) → (V.cell? ⟨T, 1, none⟩ = some (.int .i64 z) ∧ V.cell? ⟨T, 2, none⟩ = some (.int .i64 p) ∧ V.cell? ⟨T, 4, none⟩ = some (.slice G ks.length cap) ∧ V.cell? ⟨N, 0, none⟩ = some (.string ⟨x.ta.toArray⟩) ∧ V.cell? ⟨N, 1, none⟩ = some (.string ⟨x.td.toArray⟩))) := fun V hV hc => ⟨(HT.out V hV).1, (HT.out V hV).2.1, (HT.out V hV).2.2, hc 0 _ rfl, hc 1 _ rfl⟩
  obtain ⟨t1, t2, t4, c0, c1⟩ := HS.out _ HBW.out HHD.out.1
  have HA2 := Lib.hid (ba (Below.refl W.drew.heap.size W.drew) (.cells #[.string ⟨x.ta.toArray⟩, .string ⟨x.td.toArray⟩] 31))
  obtain ⟨t1', t2', t4', c0', c1'⟩ := HS.out _ (bt HBW.out HA2.out) (HHD.out.down HA2.out).1
  have HK := Lib.hid (Has.alloc W.drew [.string ⟨x.ta.toArray⟩, .string ⟨x.td.toArray⟩] 31)
  have HPT := Lib.hid ((HE.out _ HBW.out).1 _ W.drew.heap.size (HK.out.1 0 _ rfl) (HK.out.1 1 _ rfl) (bt HBW.out HA2.out))
  have HFT := Lib.hid (HE.out _ HBW.out).2
  clear hH hB hN hdr HA HH HE hq' l0 l1 l2 l3 l2' l3'
  refine wp_region_noPanic ?_
  go_region_held3 (fun w' => w'.cell? ⟨T, 1, none⟩ = some (.int .i64 z) ∧ w'.cell? ⟨T, 2, none⟩ = some (.int .i64 p) ∧ w'.cell? ⟨T, 4, none⟩ = some (.slice G ks.length cap) ∧ w'.cell? ⟨N, 0, none⟩ = some (.string ⟨x.ta.toArray⟩) ∧ w'.cell? ⟨N, 1, none⟩ = some (.string ⟨x.td.toArray⟩)) (first | exact ⟨t1, t2, t4, c0, c1⟩ | exact ⟨t1', t2', t4', c0', c1'⟩ | exact ⟨s1, s2, s4, d0, d1⟩ | exact ⟨s1', s2', s4', d0', d1'⟩) (first
   | (go_at_call 120; refine HPT.out.mono ?_; rintro e w3 ⟨⟨u, rfl, hu⟩, hb3⟩; have HB3 := Lib.hid (bt (bt HBW.out HA2.out) hb3); have HU := Lib.hid hu; obtain ⟨s1, s2, s4, d0, d1⟩ := HS.out _ HB3.out ((HHD.out.down HA2.out).down hb3).1)
   | (go_at_call 119; refine (HFT.out _ _ HU.out HB3.out).mono ?_; rintro e w4 ⟨rfl, hb4⟩; have HB4 := Lib.hid (bt HB3.out hb4); obtain ⟨s1', s2', s4', d0', d1'⟩ := HS.out _ HB4.out (((HHD.out.down HA2.out).down hb3).down hb4).1))
  all_goals
   refine NoPanic.normal ?_
   clear t1 t2 t4 c0 c1 t1' t2' t4' c0' c1' s1 s2 s4 d0 d1 s1' s2' s4' d0' d1'
   go_wp2_with fail
   go_ret
   exact ⟨rfl, HB4.out⟩
 | false =>
  rw [hqq] at hq
  have hq' : (n == [116, 111]) = false := hq.symm
  have HE := Lib.hid (HEND.out x.fa x.fd hxf (HB2.out hqq))
  have HA := Lib.hid (ba (Below.refl w.heap.size w) (.cells #[.string ⟨x.fa.toArray⟩, .string ⟨x.fd.toArray⟩] 31))
  have HH := Lib.hid (Has.alloc w [.string ⟨x.fa.toArray⟩, .string ⟨x.fd.toArray⟩] 31)
  clear HB1 HB2 HEND hq hqq hxf hxt
  go_upto_region 4 with fail
  refine wp_here (R := fun W => Has W w.heap.size [.string ⟨x.fa.toArray⟩, .string ⟨x.fd.toArray⟩] ∧ Below w.heap.size w W) ⟨HH.out, HA.out⟩ (fun W hW => ?_)
  obtain ⟨hH, hB⟩ := hW
  obtain ⟨N, hN⟩ : ∃ N, N = w.heap.size := ⟨_, rfl⟩
  rw [← hN] at hH ⊢
  have HN := Lib.hid hN
  have hdr := Below.drew (Below.refl W.heap.size W)
  have HBW := Lib.hid (bt hB hdr)
  have HHD := Lib.hid (hH.down hdr)
  have HS : Hid (∀ V, Below w.heap.size w V → (∀ i u, ([.string ⟨x.fa.toArray⟩, .string ⟨x.fd.toArray⟩] : List Value)[i]? = some u → V.cell? ⟨N, i, none⟩ = some u) → (V.cell? ⟨T, 1, none⟩ = some (.int .i64 z) ∧ V.cell? ⟨T, 2, none⟩ = some (.int .i64 p) ∧ V.cell? ⟨T, 4, none⟩ = some (.slice G ks.length cap) ∧ V.cell? ⟨N, 0, none⟩ = some (.string ⟨x.fa.toArray⟩) ∧ V.cell? ⟨N, 1, none⟩ = some (.string ⟨x.fd.toArray⟩))) := fun V hV hc => ⟨(HT.out V hV).1, (HT.out V hV).2.1, (HT.out V hV).2.2, hc 0 _ rfl, hc 1 _ rfl⟩
  obtain ⟨t1, t2, t4, c0, c1⟩ := HS.out _ HBW.out HHD.out.1
  have HA2 := Lib.hid (ba (Below.refl W.drew.heap.size W.drew) (.cells #[.string ⟨x.fa.toArray⟩, .string ⟨x.fd.toArray⟩] 31))
  obtain ⟨t1', t2', t4', c0', c1'⟩ := HS.out _ (bt HBW.out HA2.out) (HHD.out.down HA2.out).1
  have HK := Lib.hid (Has.alloc W.drew [.string ⟨x.fa.toArray⟩, .string ⟨x.fd.toArray⟩] 31)
  have HPT := Lib.hid ((HE.out _ HBW.out).1 _ W.drew.heap.size (HK.out.1 0 _ rfl) (HK.out.1 1 _ rfl) (bt HBW.out HA2.out))
  have HFT := Lib.hid (HE.out _ HBW.out).2
  clear hH hB hN hdr HA HH HE hq' l0 l1 l2 l3
  refine wp_region_noPanic ?_
  go_region_held3 (fun w' => w'.cell? ⟨T, 1, none⟩ = some (.int .i64 z) ∧ w'.cell? ⟨T, 2, none⟩ = some (.int .i64 p) ∧ w'.cell? ⟨T, 4, none⟩ = some (.slice G ks.length cap) ∧ w'.cell? ⟨N, 0, none⟩ = some (.string ⟨x.fa.toArray⟩) ∧ w'.cell? ⟨N, 1, none⟩ = some (.string ⟨x.fd.toArray⟩)) (first | exact ⟨t1, t2, t4, c0, c1⟩ | exact ⟨t1', t2', t4', c0', c1'⟩ | exact ⟨s1, s2, s4, d0, d1⟩ | exact ⟨s1', s2', s4', d0', d1'⟩) (first
   | (go_at_call 120; refine HPT.out.mono ?_; rintro e w3 ⟨⟨u, rfl, hu⟩, hb3⟩; have HB3 := Lib.hid (bt (bt HBW.out HA2.out) hb3); have HU := Lib.hid hu; obtain ⟨s1, s2, s4, d0, d1⟩ := HS.out _ HB3.out ((HHD.out.down HA2.out).down hb3).1)
   | (go_at_call 119; refine (HFT.out _ _ HU.out HB3.out).mono ?_; rintro e w4 ⟨rfl, hb4⟩; have HB4 := Lib.hid (bt HB3.out hb4); obtain ⟨s1', s2', s4', d0', d1'⟩ := HS.out _ HB4.out (((HHD.out.down HA2.out).down hb3).down hb4).1))
  all_goals
   refine NoPanic.normal ?_
   clear t1 t2 t4 c0 c1 t1' t2' t4' c0' c1' s1 s2 s4 d0 d1 s1' s2' s4' d0' d1'
   go_wp2_with fail
   go_ret
   exact ⟨rfl, HB4.out⟩
theorem infoA : (Tryz.prog.info? 31).map (fun i => (i.zero, i.size, i.bytes)) = some (some (.agg #[.string ⟨#[]⟩, .string ⟨#[]⟩]), 2, 32) := by kernel_rfl
theorem listP_ne : ∀ (k : Nat) (l : Str) (ys : List (Str × Str)), listP k l = some ys → 0 < ys.length
 | 0, _, _, h => by cases h
 | k + 1, l, ys, h => by
  rw [listP] at h
  obtain ⟨ar, h1, h2⟩ := Option.bind_eq_some_iff.1 h
  split at h2
  ·cases h2; exact Nat.succ_pos _
  ·split at h2
   ·obtain ⟨zs, h3, rfl⟩ := Option.map_eq_some_iff.1 h2
    exact Nat.succ_pos _
   ·cases h2
def ListP (s : Str) (w : World) (e : Ending) (w' : World) : Prop :=
 ∃ v c, e = .returned (.tuple #[v, .int .i64 c]) ∧ ((addrsJ s = [] ∧ v = .slice none 0 0) ∨ ∃ g cap, v = .slice (some ⟨g, 0, none⟩) (addrsJ s).length cap ∧ 0 < (addrsJ s).length ∧ ∀ j u, (acells (addrsJ s))[j]? = some u → w'.cell? ⟨g, j, none⟩ = some u) ∧ Below w.heap.size w w'
theorem listJ_any (s : Str) (m : Int) (w : World) (hs : s.length ≤ 2000) (hm : w.cell? ⟨6, 0, none⟩ = some (.int .i64 m)) :
    Calls Tryz.prog 89 #[.string ⟨s.toArray⟩] w (ListP s w) := by
 refine (list_any ⟨s.toArray⟩ m w hs hm).mono ?_
 intro e w' ⟨h, hb⟩
 have h' : ListSays w.heap.size w' e (listL s) := h
 unfold ListP addrsJ
 rcases h' with ⟨h1, rfl⟩ | ⟨ys, h1, h2, rfl⟩ | ⟨ys, v, h1, h2, rfl, h3⟩
 ·rw [h1]; exact ⟨_, _, rfl, .inl ⟨rfl, rfl⟩, hb⟩
 ·rw [h1]
  simp only
  rw [if_neg (by omega)]
  exact ⟨_, _, rfl, .inl ⟨rfl, rfl⟩, hb⟩
 ·rw [h1]
  simp only
  rw [if_pos h2]
  have hne := listP_ne _ _ _ h1
  obtain ⟨g, cap, rfl, _, hg⟩ := World.ownsRow.form h3 hne
  refine ⟨_, _, rfl, .inr ⟨g, cap, rfl, hne, fun j u hj => ?_⟩, hb⟩
  have := World.ownsRow.cells h3 (g := g) rfl j _ hj
  rwa [Addr.add_lit, Nat.zero_add] at this
theorem acells_app (a b : List (Str × Str)) : acells (a ++ b) = acells a ++ acells b := by simp [acells]
theorem acells_one (a : List (Str × Str)) : ∀ u ∈ acells a, u.oneCell' = true := by
 intro u hu
 obtain ⟨y, _, hy⟩ := List.mem_flatMap.1 hu
 simp at hy
 rcases hy with rfl | rfl <;> rfl
theorem addrs_few (l : List Str) : (l.flatMap addrsJ).length ≤ l.length * 20 := by
 induction l with
 | nil => exact Nat.zero_le _
 | cons s l ih => rw [List.flatMap_cons, List.length_append, List.length_cons]; have := addrsJ_few s; omega
theorem addrs_short (l : List Str) : Short (l.flatMap addrsJ) := by
 intro a ha
 obtain ⟨s, -, hs⟩ := List.mem_flatMap.1 ha
 have := chk_len (addrsJ_chk a hs)
 omega
theorem ask2_any (n : Str) (M : Nat) (v : Value) (body : ByteArray) (fs : List Fld) (w : World) (hM : Has w M [v, .string body]) (hv : FldsOk w v fs) (hn : n.length ≤ 100) :
    Calls Tryz.prog 121 #[.string ⟨n.toArray⟩, .pointer (some ⟨M, 0, none⟩)] w fun e w' => e = .returned (.bool ((valsJ fs n).length == 0)) ∧ Below w.heap.size w w' := by
 obtain ⟨c0, c1, -⟩ := hM.two
 have HV := Lib.hid (values_any v (.string body) fs n w hv hn ⟨_, rfl⟩)
 obtain ⟨G, cap, rfl, -⟩ := hv.1
 clear hv hM
 go_enter Tryz.func121, Tryz.ntmps121
 go_wp2_with fail
 refine HV.out.mono ?_
 rintro e w1 ⟨⟨u, rfl, hu⟩, hb1⟩
 obtain ⟨G1, c1, rfl⟩ := Sc.row_slice hu
 have HB := Lib.hid hb1
 have hd : (((valsJ fs n).length : Int) == 0) = ((valsJ fs n).length == 0) := by
  rw [Bool.eq_iff_iff]; simp
 clear hu hb1 HV
 go_wp2_with fail
 go_ret
 first
  | exact ⟨rfl, HB.out⟩
  | exact ⟨congrArg (fun b => Ending.returned (.bool b)) hd, HB.out⟩
theorem ask3_any (n : Str) (M T : Nat) (k z p m : Int) (v kv : Value) (body : ByteArray) (fs : List Fld) (ks : List Str) (F : Dom) (w : World) (hM : Has w M [v, .string body]) (hv : FldsOk w v fs) (hn : n.length ≤ 100)
    (h0 : w.cell? ⟨T, 0, none⟩ = some (.int .i64 k)) (h1 : w.cell? ⟨T, 1, none⟩ = some (.int .i64 z)) (h2 : w.cell? ⟨T, 2, none⟩ = some (.int .i64 p)) (h4 : w.cell? ⟨T, 4, none⟩ = some kv) (hz : 1 ≤ z ∧ z ≤ 3) (hks : KeysOk w F kv ks) (hm : w.cell? ⟨6, 0, none⟩ = some (.int .i64 m)) :
    Calls Tryz.prog 123 #[.string ⟨n.toArray⟩, .pointer (some ⟨M, 0, none⟩), .pointer (some ⟨T, 0, none⟩)] w fun e w' => e = .returned (.bool (fitsL z (hdrJ fs k p n) ks)) ∧ Below w.heap.size w w' := by
 obtain ⟨i0, hi, hz0, hz1, hz2⟩ := Sc.info_three infoA
 have HI := Lib.hid hi; have HZ0 := Lib.hid hz0; have HZ1 := Lib.hid hz1; have HZ2 := Lib.hid hz2
 clear hi hz0 hz1 hz2
 obtain ⟨c0, c1, -⟩ := hM.two
 have HV := Lib.hid (values_any v (.string body) fs n w hv hn ⟨_, rfl⟩)
 have hvl : (valsJ fs n).length ≤ 30 := by have := valsJ_len fs n; have := hv.2.2; omega
 have hvs : ∀ s ∈ valsJ fs n, s.length ≤ 2000 := fun s hs => by obtain ⟨f, hf, rfl⟩ := valsJ_mem hs; exact (hv.2.1 f hf).2
 obtain ⟨vs, hvs0⟩ : ∃ vs, vs = valsJ fs n := ⟨_, rfl⟩
 obtain ⟨b, hb⟩ : ∃ b, b = fitsL z (hdrJ fs k p n) ks := ⟨_, rfl⟩
 have HB7 : Hid (k = 7 → b = fitsL z (partsJ p (vs.flatMap addrsJ)) ks) := fun h => by rw [hb, hdrJ, if_pos h, hvs0]
 have HB6 : Hid (k ≠ 7 → b = fitsL z vs ks) := fun h => by rw [hb, hdrJ, if_neg h, hvs0]
 rw [← hvs0] at HV hvl hvs
 rw [← hb]
 obtain ⟨G, cap, rfl, -⟩ := hks.1.form
 have HKS := Lib.hid hks
 have HVS := Lib.hid hvs
 have HFT : Hid (∀ V u (us : List Str), SAt cStr V (fun _ => True) u us → (∀ s ∈ us, s.length ≤ 2000) → us.length ≤ 1000000 → Below w.heap.size w V → Calls Tryz.prog 119 #[.int .i64 z, u, .slice G ks.length cap] V fun e w' => e = .returned (.bool (fitsL z us ks)) ∧ Below V.heap.size V w') := fun V u us hu hl hn hV =>
  fits_any z m u _ us ks F _ V hz hu hl hn ⟨HKS.out.1.down hV, HKS.out.2⟩ (moved hm hV (Nat.le_refl _))
 have HPT : Hid (∀ V u (al : List (Str × Str)), SAt cAddr V (fun _ => True) u al → Short al → al.length ≤ 100000 → Below w.heap.size w V → Calls Tryz.prog 120 #[.int .i64 p, u] V fun e w' => (∃ u, e = .returned u ∧ SAt cStr w' (fun _ => True) u (partsJ p al)) ∧ Below V.heap.size V w') := fun V u al hu hs hn hV => by
  refine (parts_any p m u al _ V hu hs hn (moved hm hV (Nat.le_refl _))).mono ?_
  rintro e w' ⟨⟨u, rfl, hu⟩, hb'⟩
  exact ⟨⟨u, rfl, SAt.of_row (f := strC) (hf := fun _ => rfl) hu (fun _ _ => trivial)⟩, hb'⟩
 have HLS : Hid (∀ V s, s ∈ vs → Below w.heap.size w V → Calls Tryz.prog 89 #[.string ⟨s.toArray⟩] V (ListP s V)) := fun V s hs hV => listJ_any s m V (HVS.out s hs) (moved hm hV (Nat.le_refl _))
 have HT : Hid (∀ W, Below w.heap.size w W → W.cell? ⟨T, 0, none⟩ = some (.int .i64 k) ∧ W.cell? ⟨T, 1, none⟩ = some (.int .i64 z) ∧ W.cell? ⟨T, 2, none⟩ = some (.int .i64 p) ∧ W.cell? ⟨T, 4, none⟩ = some (.slice G ks.length cap)) := fun W hW => ⟨moved h0 hW (Nat.le_refl _), moved h1 hW (Nat.le_refl _), moved h2 hW (Nat.le_refl _), moved h4 hW (Nat.le_refl _)⟩
 obtain ⟨Gv, cv, rfl, -⟩ := hv.1
 clear hb hks h0 h1 h2 h4 hm hv hvs hvs0 hM
 go_enter Tryz.func123, Tryz.ntmps123
 go_wp2_with fail
 refine HV.out.mono ?_
 rintro e w1 ⟨⟨u, rfl, hu⟩, hb1⟩
 obtain ⟨G1, cu, rfl⟩ := Sc.row_slice hu
 have HB1 := Lib.hid hb1
 have hus : SAt cStr w1 (fun _ => True) (.slice G1 vs.length cu) vs := SAt.of_row (f := strC) (hf := fun _ => rfl) hu (fun _ _ => trivial)
 have HUS := Lib.hid hus
 obtain ⟨t0, t1, t2, t4⟩ := HT.out w1 hb1
 clear hu hb1 HV hus c0 c1
 by_cases hk : k = 7
 ·subst hk
  have HBE := Lib.hid (HB7.out rfl)
  clear HB6 HB7
  go_wp2_with fail
  clear t0 t1 t2 t4
  go_loopw [6, 19] (fun u i wr => ∃ j : Nat, j ≤ vs.length ∧ i = .int .i64 j ∧ wr.ownsRow w1.heap.size 31 2 u ((vs.take j).flatMap addrsJ).length (acells ((vs.take j).flatMap addrsJ)) ∧ Below w1.heap.size w1 wr) (fun _ i _ => vs.length - (intOf i).toNat)
  case atStart => exact ⟨0, Nat.zero_le _, rfl, World.ownsRow_nil _ _ _ _, Below.refl _ _⟩
  case round =>
   obtain ⟨j, hj, rfl, hown, hbel⟩ := hrel
   have hsz := hbel.size
   by_cases hlt : j < vs.length
   ·obtain ⟨g, off, hG, q0⟩ := Sc.str_get HUS.out (Same.of_below hbel) hbel.size j hlt
    subst hG
    have HL := Lib.hid (HLS.out wr vs[j] (List.getElem_mem _) (bt HB1.out hbel))
    have hst : (vs.take (j + 1)).flatMap addrsJ = (vs.take j).flatMap addrsJ ++ addrsJ vs[j] := by rw [List.take_succ_eq_append_getElem hlt, List.flatMap_append]; simp
    have hfew := addrs_few (vs.take j)
    have hfj := addrsJ_few vs[j]
    rw [List.length_take] at hfew
    have hfew' : ((vs.take j).flatMap addrsJ).length ≤ 600 := by omega
    generalize vs[j] = s at q0 HL hst hfj
    have HST := Lib.hid hst
    obtain ⟨A, hA⟩ : ∃ A, A = (vs.take j).flatMap addrsJ := ⟨_, rfl⟩
    rw [← hA] at hown hfew' HST
    have HAA := Lib.hid hA
    have hal := acells_length A
    clear hst hA hfew
    go_wp2_with fail
    refine HL.out.mono ?_
    intro e w2 hp
    unfold ListP at hp
    obtain ⟨lv, lc, rfl, hcase, hb2⟩ := hp
    have hown2 := row_down hown hb2
    have hb02 := bt hbel hb2
    have hsz2 : w1.heap.size ≤ w2.heap.size := hb02.size
    clear HL hown q0
    rcases hcase with ⟨he, rfl⟩ | ⟨g2, cap2, rfl, hpos, hcells⟩
    ·have HE := Lib.hid he
     clear he hb2
     have hform := hown2.2
     rcases hform with ⟨rfl, -⟩ | ⟨gA, cA, curA, rfl, -, -, hcA, -⟩
     ·go_wp2_with fail
      go_roundw
      case rel => exact ⟨j + 1, by omega, by go_num, by rw [HST.out, HE.out, List.append_nil]; exact hown2, hb02⟩
      case measure => simp [intOf]; omega
     ·go_wp2_with fail
      go_roundw
      case rel => exact ⟨j + 1, by omega, by go_num, by rw [HST.out, HE.out, List.append_nil]; exact hown2, hb02⟩
      case measure => simp [intOf]; omega
    ·have hbl := acells_length (addrsJ s)
     have HCE : Hid (∀ j u, (acells (addrsJ s))[j]? = some u → w2.cell? ((⟨g2, 0, none⟩ : Addr).add j) = some u) := fun j u hj => by rw [Addr.add_lit, Nat.zero_add]; exact hcells j u hj
     have H1C := Lib.hid (acells_one (addrsJ s))
     obtain ⟨B, hB⟩ : ∃ B, B = addrsJ s := ⟨_, rfl⟩
     rw [← hB] at HCE H1C HST hbl hfj hpos ⊢
     clear hcells hb2 hB
     go_wp2_with (at_builtin; refine wpList_append_own _ (by rfl) _ _ 184 (by rfl) w1.heap.size 31 i0 _ 2 32 Tryz.underlying184 HI.out HZ0.out HZ1.out HZ2.out rfl (by decide) u6 A.length (acells A) (by rfl) hown2 ⟨g2, 0, none⟩ B.length cap2 (acells B) (by rfl) hbl HCE.out H1C.out (by unfold maxLen; omega) (by omega) hsz2 ?_)
     intro v4 w4 hown4 hgrow4 _
     have lb := below_row hb02 (Nat.le_refl _) hown2 (Nat.le_refl _) hgrow4
     have hown5 : w4.ownsRow w1.heap.size 31 2 v4 ((vs.take (j + 1)).flatMap addrsJ).length (acells ((vs.take (j + 1)).flatMap addrsJ)) := by
      rw [HST.out, acells_app, List.length_append]; exact hown4
     clear hown4 hgrow4 hown2 hb02 HCE H1C
     go_wp2_with fail
     go_roundw
     case rel => exact ⟨j + 1, by omega, by go_num, hown5, lb⟩
     case measure => simp [intOf]; omega
   ·obtain rfl : j = vs.length := by omega
    rw [List.take_length] at hown
    have hsa : SAt cAddr wr (fun _ => True) u6 (vs.flatMap addrsJ) := SAt.of_row (f := addrC) (hf := fun _ => rfl) hown (fun _ _ => trivial)
    have hbw := bt HB1.out hbel
    have HBW := Lib.hid hbw
    have hal := addrs_few vs
    have hshort := addrs_short vs
    obtain ⟨AL, hAL⟩ : ∃ AL, AL = vs.flatMap addrsJ := ⟨_, rfl⟩
    rw [← hAL] at hsa hal hshort HBE
    clear hown hAL
    have HP := Lib.hid (HPT.out wr u6 _ hsa hshort (by omega) hbw)
    obtain ⟨Ga, ca, rfl, -⟩ := hsa.form
    obtain ⟨t0, t1, t2, t4⟩ := HT.out wr hbw
    have hpl : (partsJ p AL).length ≤ 1000000 := by unfold partsJ; rw [List.length_map]; omega
    have HPL := Lib.hid hpl
    clear hsa hbel hsz hbw hal hpl hshort
    go_wp2_with fail
    refine HP.out.mono ?_
    rintro e w5 ⟨⟨u, rfl, hu⟩, hb5⟩
    have hb05 := bt HBW.out hb5
    have HF := Lib.hid (HFT.out w5 u _ hu partsJ_len HPL.out hb05)
    rw [← HBE.out] at HF
    obtain ⟨US, hUS⟩ : ∃ US, US = partsJ p AL := ⟨_, rfl⟩
    rw [← hUS] at hu
    clear hUS
    have HB5 := Lib.hid hb05
    obtain ⟨Gu, cu', rfl, -⟩ := hu.form
    clear t0 t1 t2 t4
    obtain ⟨t0, t1, t2, t4⟩ := HT.out w5 hb05
    clear hu hb5 hb05 HP
    go_wp2_with fail
    refine HF.out.mono ?_
    rintro e w6 ⟨rfl, hb6⟩
    have HB6 := Lib.hid (bt HB5.out hb6)
    clear hb6 HF
    go_wp2_with fail
    go_ret
    exact ⟨rfl, HB6.out⟩
 ·have HBE := Lib.hid (HB6.out hk)
  have hkq : (k == 7) = false := beq_eq_false_iff_ne.2 hk
  have HF := Lib.hid (HFT.out w1 _ vs HUS.out HVS.out (by omega) HB1.out)
  rw [← HBE.out] at HF
  clear HB6 HB7 hk
  go_wp2_with fail
  refine HF.out.mono ?_
  rintro e w6 ⟨rfl, hb6⟩
  have HB6 := Lib.hid (bt HB1.out hb6)
  clear hb6 HF
  go_wp2_with fail
  go_ret
  exact ⟨rfl, HB6.out⟩
end Go.Proofs.YtpfbkdbblpppdaaGreatDoor.Jd
namespace Go.Proofs.YtpfbkdbblpppdaaGreatDoor.Jd
open Go.RowKit
open Sc (Str Tst cStr strC tstC Form1)
theorem ent_ask1 : Enters 118 := fun _ _ => by kernel_rfl
theorem ent_ask2 : Enters 121 := fun _ _ => by kernel_rfl
theorem ent_ask3 : Enters 123 := fun _ _ => by kernel_rfl
theorem KeysOk.down {w w' : World} {F : Dom} {v : Value} {ks : List Str} (h : KeysOk w F v ks) (hb : Below w.heap.size w w') : KeysOk w' F v ks := ⟨h.1.down hb, h.2⟩
theorem tst_cells {w : World} {T : Nat} {t : Tst} {vn vk vt : Value} (h : Has w T (tstC t vn vk vt)) : w.cell? ⟨T, 0, none⟩ = some (.int .i64 t.kind) ∧ w.cell? ⟨T, 1, none⟩ = some (.int .i64 t.mat) ∧ w.cell? ⟨T, 2, none⟩ = some (.int .i64 t.part) ∧ w.cell? ⟨T, 3, none⟩ = some vn ∧ w.cell? ⟨T, 4, none⟩ = some vk ∧ w.cell? ⟨T, 5, none⟩ = some (.bool t.over) ∧ w.cell? ⟨T, 6, none⟩ = some (.int .i64 t.limit) ∧ w.cell? ⟨T, 7, none⟩ = some vt :=
 ⟨h.1 0 _ rfl, h.1 1 _ rfl, h.1 2 _ rfl, h.1 3 _ rfl, h.1 4 _ rfl, h.1 5 _ rfl, h.1 6 _ rfl, h.1 7 _ rfl⟩
structure Vars (w : World) (T L M : Nat) (t : Tst) (vn vk vt : Value) (x : Ltt) (v : Value) (body : ByteArray) : Prop where
 t : Has w T (tstC t vn vk vt)
 l : Has w L (lttC x)
 m : Has w M [v, .string body]
theorem Vars.down {w w' : World} {T L M : Nat} {t : Tst} {vn vk vt : Value} {x : Ltt} {v : Value} {body : ByteArray} (h : Vars w T L M t vn vk vt x v body) (hb : Below w.heap.size w w') : Vars w' T L M t vn vk vt x v body := ⟨h.t.down hb, h.l.down hb, h.m.down hb⟩
theorem vars_new (w : World) (t : Tst) (vn vk vt : Value) (x : Ltt) (v : Value) (body : ByteArray) :
    Vars (((w.alloc (.cells (tstC t vn vk vt).toArray 40)).alloc (.cells (lttC x).toArray 33)).alloc (.cells #[v, .string body] 100)) w.heap.size (w.heap.size + 1) (w.heap.size + 1 + 1) t vn vk vt x v body ∧
     Below w.heap.size w (((w.alloc (.cells (tstC t vn vk vt).toArray 40)).alloc (.cells (lttC x).toArray 33)).alloc (.cells #[v, .string body] 100)) := by
 have h1 := Has.alloc w (tstC t vn vk vt) 40
 have h2 := Has.alloc (w.alloc (.cells (tstC t vn vk vt).toArray 40)) (lttC x) 33
 have h3 := Has.alloc ((w.alloc (.cells (tstC t vn vk vt).toArray 40)).alloc (.cells (lttC x).toArray 33)) [v, .string body] 100
 rw [World.size_alloc] at h2
 rw [World.size_alloc, World.size_alloc] at h3
 refine ⟨⟨(h1.down (ba (Below.refl _ _) _)).down (ba (Below.refl _ _) _), h2.down (ba (Below.refl _ _) _), h3⟩, ba (ba (ba (Below.refl _ _) _) _) _⟩
structure AskIn (w : World) (F : Dom) (t : Tst) (vn vk : Value) (x : Ltt) (v : Value) (fs : List Fld) (m : Int) : Prop where
 form : Form1 t.kind t.mat t.part t.names.length t.keys.length t.over t.limit t.tests.length
 names : KeysOk w F vn t.names
 keys : KeysOk w F vk t.keys
 ltt : LttOk x
 flds : FldsOk w v fs
 max : w.cell? ⟨6, 0, none⟩ = some (.int .i64 m)
theorem AskIn.down {w w' : World} {F : Dom} {t : Tst} {vn vk : Value} {x : Ltt} {v : Value} {fs : List Fld} {m : Int} (h : AskIn w F t vn vk x v fs m) (hb : Below w.heap.size w w') : AskIn w' F t vn vk x v fs m :=
 ⟨h.form, h.names.down hb, h.keys.down hb, h.ltt, h.flds.down hb, moved h.max hb (Nat.le_refl _)⟩
def AskP (b : Bool) (w : World) (e : Ending) (w' : World) : Prop := e = .returned (.bool b) ∧ Below w.heap.size w w'
theorem ask_any (t : Tst) (F : Dom) (vn vk vt v : Value) (x : Ltt) (body : ByteArray) (fs : List Fld) (m : Int) (w : World) (h : AskIn w F t vn vk x v fs m) (hk : ¬ (3 ≤ t.kind ∧ t.kind ≤ 5)) :
    Calls Tryz.prog 78 #[.agg (tstC t vn vk vt).toArray, .agg (lttC x).toArray, .agg #[v, .string body]] w (AskP (askL x fs t.kind t.mat t.part t.names t.keys t.over t.limit) w) := by
 obtain ⟨b, hb⟩ : ∃ b, b = askL x fs t.kind t.mat t.part t.names t.keys t.over t.limit := ⟨_, rfl⟩
 rw [← hb]
 have HVN := Lib.hid (vars_new w t vn vk vt x v body)
 obtain ⟨k, mt, p, ns, ks, o, lim, ts⟩ := t
 have HIN := Lib.hid h
 have hf := h.form
 obtain ⟨Gn, cn, rfl, -⟩ := h.names.1.form
 obtain ⟨Gk, ck, rfl, -⟩ := h.keys.1.form
 simp only at hb hk hf
 clear h
 have HB := Lib.hid hb
 clear hb
 unfold tstC lttC at HVN ⊢
 simp only at HVN ⊢
 go_enter Tryz.func78, Tryz.ntmps78
 go_upto_region 1 with fail
 refine wp_here (R := fun W => Vars W w.heap.size (w.heap.size + 1) (w.heap.size + 1 + 1) ⟨k, mt, p, ns, ks, o, lim, ts⟩ (.slice Gn ns.length cn) (.slice Gk ks.length ck) vt x v body ∧ Below w.heap.size w W) ⟨HVN.out.1, HVN.out.2⟩ (fun W hW => ?_)
 obtain ⟨hV, hbW⟩ := hW
 clear HVN
 obtain ⟨T, hT⟩ : ∃ T, T = w.heap.size := ⟨_, rfl⟩
 obtain ⟨L, hL⟩ : ∃ L, L = w.heap.size + 1 := ⟨_, rfl⟩
 obtain ⟨M, hM⟩ : ∃ M, M = w.heap.size + 1 + 1 := ⟨_, rfl⟩
 rw [← hM, ← hL, ← hT] at hV ⊢
 obtain ⟨t0, t1, t2, t3, t4, t5, t6, -⟩ := tst_cells hV.t
 obtain ⟨-, -, -, -, l4⟩ := ltt_get hV.l
 have HV := Lib.hid hV; have HBW := Lib.hid hbW
 have HI := Lib.hid (HIN.out.down hbW)
 simp only at t0 t1 t2 t3 t4 t5 t6
 clear hV hbW HIN hT hL hM
 unfold Form1 at hf
 have hcase : (k = 1 ∨ k = 2) ∨ k = 10 ∨ (k = 8 ∧ (1 ≤ mt ∧ mt ≤ 3)) ∨ k = 9 ∨ ((k = 6 ∨ k = 7) ∧ (1 ≤ mt ∧ mt ≤ 3)) := by
  rcases hf with h | h | h | h | h | h | h
  ·exact .inl h.1
  ·exact absurd ⟨by omega, by omega⟩ hk
  ·exact absurd ⟨by omega, by omega⟩ hk
  ·exact .inr (.inr (.inr (.inr ⟨.inl h.1, h.2.1⟩)))
  ·rcases h.1 with h1 | h1
   ·exact .inr (.inr (.inr (.inr ⟨.inr h1, h.2.1⟩)))
   ·exact .inr (.inr (.inl ⟨h1, h.2.1⟩))
  ·exact .inr (.inr (.inr (.inl h.1)))
  ·exact .inr (.inl h.1)
 clear hf hk
 rcases hcase with (rfl | rfl) | rfl | ⟨rfl, hm3⟩ | rfl | ⟨h67, hm3⟩
 ·go_wp2_with fail
  go_ret
  exact ⟨congrArg (fun b => Ending.returned (.bool b)) HB.out.symm, HBW.out⟩
 ·go_wp2_with fail
  go_ret
  exact ⟨congrArg (fun b => Ending.returned (.bool b)) HB.out.symm, HBW.out⟩
 ·cases o with
  | true =>
   go_wp2_with fail
   go_ret
   exact ⟨congrArg (fun b => Ending.returned (.bool b)) HB.out.symm, HBW.out⟩
  | false =>
   go_wp2_with fail
   go_ret
   exact ⟨congrArg (fun b => Ending.returned (.bool b)) HB.out.symm, HBW.out⟩
 ·have HC : Hid (Calls Tryz.prog 117 #[.slice Gn ns.length cn, .func (.func 118) #[] #[.pointer (some ⟨L, 0, none⟩), .pointer (some ⟨T, 0, none⟩)]] W fun e w' => e = .returned (.bool (ns.any fun n => fitsL mt (envJ x p n) ks)) ∧ Below W.heap.size W w') :=
   containsS_any 118 [.pointer (some ⟨L, 0, none⟩), .pointer (some ⟨T, 0, none⟩)] (fun n => fitsL mt (envJ x p n) ks) _ ns F W HI.out.names.1 HI.out.names.2.2 ent_ask1 fun n _ w' hb =>
    ask1_any n x L T mt p m _ ks F w' (HV.out.l.down hb) (tst_cells (HV.out.t.down hb)).2.1 (tst_cells (HV.out.t.down hb)).2.2.1 (tst_cells (HV.out.t.down hb)).2.2.2.2.1 hm3 (HI.out.keys.down hb) HI.out.ltt (moved HI.out.max hb (Nat.le_refl _))
  rw [show (ns.any fun n => fitsL mt (envJ x p n) ks) = b from HB.out.symm] at HC
  go_wp2_with fail
  refine HC.out.mono ?_
  rintro e w1 ⟨rfl, hb1⟩
  have HB1 := Lib.hid (bt HBW.out hb1)
  clear hb1 HC
  go_wp2_with fail
  go_ret
  exact ⟨rfl, HB1.out⟩
 ·have HC : Hid (Calls Tryz.prog 117 #[.slice Gn ns.length cn, .func (.func 121) #[] #[.pointer (some ⟨M, 0, none⟩)]] W fun e w' => e = .returned (.bool (ns.any fun n => (valsJ fs n).length == 0)) ∧ Below W.heap.size W w') :=
   containsS_any 121 [.pointer (some ⟨M, 0, none⟩)] (fun n => (valsJ fs n).length == 0) _ ns F W HI.out.names.1 HI.out.names.2.2 ent_ask2 fun n hn w' hb =>
    ask2_any n M v body fs w' (HV.out.m.down hb) (HI.out.flds.down hb) (HI.out.names.2.1 n hn)
  have HB9 : Hid (b = !(ns.any fun n => (valsJ fs n).length == 0)) := HB.out
  obtain ⟨c, hc⟩ : ∃ c, c = (ns.any fun n => (valsJ fs n).length == 0) := ⟨_, rfl⟩
  rw [← hc] at HC HB9
  clear hc
  go_wp2_with fail
  refine HC.out.mono ?_
  rintro e w1 ⟨rfl, hb1⟩
  have HB1 := Lib.hid (bt HBW.out hb1)
  clear hb1 HC
  go_wp2_with fail
  go_ret
  exact ⟨congrArg (fun b => Ending.returned (.bool b)) HB9.out.symm, HB1.out⟩
 ·have HC : Hid (Calls Tryz.prog 117 #[.slice Gn ns.length cn, .func (.func 123) #[] #[.pointer (some ⟨M, 0, none⟩), .pointer (some ⟨T, 0, none⟩)]] W fun e w' => e = .returned (.bool (ns.any fun n => fitsL mt (hdrJ fs k p n) ks)) ∧ Below W.heap.size W w') :=
   containsS_any 123 [.pointer (some ⟨M, 0, none⟩), .pointer (some ⟨T, 0, none⟩)] (fun n => fitsL mt (hdrJ fs k p n) ks) _ ns F W HI.out.names.1 HI.out.names.2.2 ent_ask3 fun n hn w' hb =>
    ask3_any n M T k mt p m v _ body fs ks F w' (HV.out.m.down hb) (HI.out.flds.down hb) (HI.out.names.2.1 n hn) (tst_cells (HV.out.t.down hb)).1 (tst_cells (HV.out.t.down hb)).2.1 (tst_cells (HV.out.t.down hb)).2.2.1 (tst_cells (HV.out.t.down hb)).2.2.2.2.1 hm3 (HI.out.keys.down hb) (moved HI.out.max hb (Nat.le_refl _))
  have hbb : b = ns.any fun n => fitsL mt (hdrJ fs k p n) ks := by
   have := HB.out
   unfold askL at this
   rw [if_neg (by omega), if_neg (by omega), if_neg (by omega), if_neg (by omega), if_pos h67] at this
   exact this
  rw [← hbb] at HC
  clear hbb HB
  rcases h67 with rfl | rfl
  ·go_wp2_with fail
   refine HC.out.mono ?_
   rintro e w1 ⟨rfl, hb1⟩
   have HB1 := Lib.hid (bt HBW.out hb1)
   clear hb1 HC
   go_wp2_with fail
   go_ret
   exact ⟨rfl, HB1.out⟩
  ·go_wp2_with fail
   refine HC.out.mono ?_
   rintro e w1 ⟨rfl, hb1⟩
   have HB1 := Lib.hid (bt HBW.out hb1)
   clear hb1 HC
   go_wp2_with fail
   go_ret
   exact ⟨rfl, HB1.out⟩
end Go.Proofs.YtpfbkdbblpppdaaGreatDoor.Jd
namespace Go.Proofs.YtpfbkdbblpppdaaGreatDoor.Jd
open Go.RowKit
open Sc (Str Tst cStr strC tstC cTst)
def AsksT (N : FuncId) (cs : List Value) (n : Nat) (P : Tst → Bool) (l : List Tst) (F : Dom) (w : World) : Prop :=
 ∀ (j : Nat) (hj : j < l.length) (vs : List Value) (w' : World), Below w.heap.size w w' → (cTst n).rep w' F l[j] vs → Calls Tryz.prog N (Value.agg vs.toArray :: cs).toArray w' fun e w'' => e = .returned (.bool (P l[j])) ∧ Below w'.heap.size w' w''
theorem indexT_any (N : FuncId) (cs : List Value) (n : Nat) (P : Tst → Bool) (v : Value) (l : List Tst) (F : Dom) (w : World) (h : SAt (cTst n) w F v l) (hl : l.length ≤ 1000000) (hen : Enters N) (hc : AsksT N cs n P l F w) :
    Calls Tryz.prog 116 #[v, .func (.func N) #[] cs.toArray] w fun e w' => e = .returned (.int .i64 (idxJ (l.findIdx? P))) ∧ Below w.heap.size w w' := by
 obtain ⟨G, cap, rfl, hcap⟩ := h.form
 have H := Lib.hid h; have HC := Lib.hid hc; have HEN := Lib.hid hen
 clear h hc hen
 go_enter Tryz.func116, Tryz.ntmps116
 go_wp2_with fail
 go_loopw [8] (fun i wr => ∃ j : Nat, j ≤ l.length ∧ i = .int .i64 j ∧ (∀ k (hk : k < l.length), k < j → P l[k] = false) ∧ Below w.heap.size w wr) (fun i _ => l.length - (intOf i).toNat)
 case atStart => exact ⟨0, Nat.zero_le _, rfl, (fun k _ h => absurd h (Nat.not_lt_zero _)), Below.refl _ _⟩
 case round =>
  obtain ⟨j, hj, rfl, hno, hb⟩ := hrel
  have HNO := Lib.hid hno
  clear hno
  by_cases hlt : j < l.length
  ·obtain ⟨g, off, Gn, cn, Gk, ck, Gt, ct, rfl, hrep, c0, c1, c2, c3, c4, c5, c6, c7⟩ := Sc.tst_get H.out (Same.of_below hb) hb.size j hlt
   have hC := Lib.hid (HC.out j hlt _ wr hb hrep)
   clear hrep
   cases hp : P l[j] with
   | true =>
    have hfi : Hid (idxJ (l.findIdx? P) = (j : Int)) := by
     have : l.findIdx? P = some j := by
      rw [List.findIdx?_eq_some_iff_getElem]
      exact ⟨hlt, hp, fun k hk => by rw [HNO.out k (by omega) hk]; decide⟩
     unfold Hid; rw [this]; rfl
    rw [hp] at hC
    clear HNO hp
    generalize l[j] = m at c0 c1 c2 c3 c4 c5 c6 c7 hC
    obtain ⟨y0, y1, y2, y3, y4, y5, y6, y7⟩ := m
    simp only [tstC] at hC c0 c1 c2 c3 c4 c5 c6 c7
    go_wp2_with fail
    rw [HEN.out]
    refine hC.out.mono ?_
    rintro e w1 ⟨rfl, hb1⟩
    have HB := Lib.hid (bt hb hb1)
    clear c0 c1 c2 c3 c4 c5 c6 c7 hb1 hb
    go_wp2_with fail
    go_ret
    exact ⟨by rw [hfi.out]; rfl, HB.out⟩
   | false =>
    have hno2 : Hid (∀ k (hk : k < l.length), k < j + 1 → P l[k] = false) := by
     intro k hk hkj
     rcases Nat.lt_succ_iff_lt_or_eq.1 hkj with h | h
     ·exact HNO.out k hk h
     ·subst h; exact hp
    rw [hp] at hC
    clear HNO hp
    generalize l[j] = m at c0 c1 c2 c3 c4 c5 c6 c7 hC
    obtain ⟨y0, y1, y2, y3, y4, y5, y6, y7⟩ := m
    simp only [tstC] at hC c0 c1 c2 c3 c4 c5 c6 c7
    go_wp2_with fail
    rw [HEN.out]
    refine hC.out.mono ?_
    rintro e w1 ⟨rfl, hb1⟩
    have HB := Lib.hid (bt hb hb1)
    clear c0 c1 c2 c3 c4 c5 c6 c7 hb1 hb
    go_wp2_with fail
    go_roundw
    case rel => exact ⟨j + 1, hlt, by go_num, hno2.out, HB.out⟩
    case measure => simp [intOf]; omega
  ·obtain rfl : j = l.length := by omega
   have hfi : Hid (idxJ (l.findIdx? P) = -1) := by
    have : l.findIdx? P = none := by
     rw [List.findIdx?_eq_none_iff]
     intro b hb
     obtain ⟨k, hk, rfl⟩ := List.getElem_of_mem hb
     exact HNO.out k hk hk
    unfold Hid; rw [this]; rfl
   clear HNO
   go_wp2_with fail
   go_ret
   exact ⟨by rw [hfi.out]; rfl, hb⟩
theorem containsT_any (N : FuncId) (cs : List Value) (n : Nat) (P : Tst → Bool) (v : Value) (l : List Tst) (F : Dom) (w : World) (h : SAt (cTst n) w F v l) (hl : l.length ≤ 1000000) (hen : Enters N) (hc : AsksT N cs n P l F w) :
    Calls Tryz.prog 76 #[v, .func (.func N) #[] cs.toArray] w fun e w' => e = .returned (.bool (l.any P)) ∧ Below w.heap.size w w' := by
 have HI := Lib.hid (indexT_any N cs n P v l F w h hl hen hc)
 have hd := idx_any P l
 obtain ⟨G, cap, rfl, -⟩ := h.form
 obtain ⟨z, hz⟩ : ∃ z, z = idxJ (l.findIdx? P) := ⟨_, rfl⟩
 rw [← hz] at HI hd
 clear h hc hz hen
 go_enter Tryz.func76, Tryz.ntmps76
 go_wp2_with fail
 refine HI.out.mono ?_
 rintro e w1 ⟨rfl, hb1⟩
 go_wp2_with fail
 go_ret
 exact ⟨rfl, hb1⟩
end Go.Proofs.YtpfbkdbblpppdaaGreatDoor.Jd
namespace Go.Proofs.YtpfbkdbblpppdaaGreatDoor.Jd
open Go.RowKit
open Sc
structure Fine (d B : Nat) (t : Tst) : Prop where
 form : FormT t
 nice : niceT t
 len : LenTs t
 fit : fitT d t = true
 few : (wT t).length ≤ B
theorem Fine.up {d B B' : Nat} {t : Tst} (h : Fine d B t) (hB : B ≤ B') : Fine d B' t := ⟨h.form, h.nice, h.len, h.fit, Nat.le_trans h.few hB⟩
def manyT (k : Int) (ts : List Tst) : Tst := ⟨k, 0, 0, [], [], false, 0, ts⟩
theorem Fine.many {d B : Nat} {k : Int} (hk : k = 4 ∨ k = 5) {ts : List Tst} (h : ∀ t ∈ ts, Fine (d + 1) B t) (hd : d ≤ 6) (h0 : 0 < ts.length) (h3 : ts.length ≤ 3) : Fine d (3 * (B + 1) + 2) (manyT k ts) := by
 refine ⟨FormT.mk' ?_ fun s hs => (h s hs).form, niceT_mk (fun h => absurd h (by show ¬ k = 8; omega)) rfl fun s hs => (h s hs).nice, LenTs_mk nilStr nilStr ⟨Nat.zero_le _, Nat.zero_le _, by show ts.length ≤ _; omega⟩ fun s hs => (h s hs).len, ?_, ?_⟩
 ·unfold Form1 manyT
  rcases hk with rfl | rfl <;> simp [h0]
 ·rw [fitT_eq, decide_eq_true hd, Bool.true_and, List.all_eq_true]
  exact fun s hs => (h s hs).fit
 ·exact wT_of hk ts h3 fun t ht => (h t ht).few
theorem tB_le : ∀ m, m ≤ 2 → tB m ≤ 137
 | 0, _ => by decide
 | 1, _ => by decide
 | 2, _ => by decide
 | m + 3, h => absurd h (by omega)
theorem testS_fine (m d : Nat) (x : Stk) (h : m + d ≤ 6) (hm : m ≤ 2) : Fine d 137 (testS m x) :=
 ⟨testS_form m x, testS_nice m x, testS_LenTs m x, testS_fit m d x h, Nat.le_trans (testS_len m x) (tB_le m hm)⟩
end Go.Proofs.YtpfbkdbblpppdaaGreatDoor.Jd
namespace Go.Proofs.YtpfbkdbblpppdaaGreatDoor.Jd
open Go.RowKit
open Sc (Str Tst cStr strC tstC cTst FormT niceT LenTs Form1)
theorem ent_test1 : Enters 75 := fun _ _ => by kernel_rfl
theorem ent_test2 : Enters 77 := fun _ _ => by kernel_rfl
structure GoodT (t : Tst) : Prop where
 form : FormT t
 nice : niceT t
 len : LenTs t
theorem Fine.good {d B : Nat} {t : Tst} (h : Fine d B t) : GoodT t := ⟨h.form, h.nice, h.len⟩
theorem niceT_get {t : Tst} (h : niceT t) : (∀ s ∈ t.names, s.length ≤ 100) ∧ (∀ s ∈ t.keys, s.length ≤ 100) ∧ ∀ s ∈ t.tests, niceT s := by
 obtain ⟨k, m, p, ns, ks, o, l, ts⟩ := t
 rw [niceT] at h
 obtain ⟨-, h2, h3⟩ := h
 have h2' := List.all_eq_true.1 h2
 exact ⟨fun s hs => of_decide_eq_true (h2' s (List.mem_append_left _ hs)), fun s hs => of_decide_eq_true (h2' s (List.mem_append_right _ hs)), (Sc.niceTs_iff _).1 h3⟩
theorem GoodT.sub {t : Tst} (h : GoodT t) : ∀ s ∈ t.tests, GoodT s := fun s hs => ⟨h.form.all s hs, (niceT_get h.nice).2.2 s hs, h.len.sub s hs⟩
structure JIn (w : World) (x : Ltt) (v : Value) (fs : List Fld) (m : Int) : Prop where
 ltt : LttOk x
 flds : FldsOk w v fs
 max : w.cell? ⟨6, 0, none⟩ = some (.int .i64 m)
theorem JIn.down {w w' : World} {x : Ltt} {v : Value} {fs : List Fld} {m : Int} (h : JIn w x v fs m) (hb : Below w.heap.size w w') : JIn w' x v fs m := ⟨h.ltt, h.flds.down hb, moved h.max hb (Nat.le_refl _)⟩
def TestJ (n : Nat) : Prop := ∀ (t : Tst) (vs : List Value) (F : Dom) (x : Ltt) (v : Value) (body : ByteArray) (fs : List Fld) (m : Int) (w : World), (cTst n).rep w F t vs → GoodT t → JIn w x v fs m →
 Calls Tryz.prog 44 #[.agg vs.toArray, .agg (lttC x).toArray, .agg #[v, .string body]] w (AskP (tstJ x fs t) w)
theorem in1_any (n : Nat) (hIH : TestJ n) (t : Tst) (vs : List Value) (F : Dom) (x : Ltt) (v : Value) (body : ByteArray) (fs : List Fld) (m : Int) (L M : Nat) (w : World) (hr : (cTst n).rep w F t vs) (hg : GoodT t) (hj : JIn w x v fs m) (hL : Has w L (lttC x)) (hM : Has w M [v, .string body]) :
    Calls Tryz.prog 75 #[.agg vs.toArray, .pointer (some ⟨L, 0, none⟩), .pointer (some ⟨M, 0, none⟩)] w (AskP (tstJ x fs t) w) := by
 obtain ⟨_, Gn, cn, Gk, ck, Gt, ct, -, rfl, -⟩ := Sc.tst_open hr
 obtain ⟨b, hb⟩ : ∃ b, b = tstJ x fs t := ⟨_, rfl⟩
 have hA := ba (Below.refl w.heap.size w) (.cells (tstC t (.slice Gn t.names.length cn) (.slice Gk t.keys.length ck) (.slice Gt t.tests.length ct)).toArray 40)
 have HC := Lib.hid (hIH t _ F x v body fs m _ ((cTst n).stable hr (Same.of_below hA) hA.size) hg (hj.down hA))
 rw [← hb] at HC ⊢
 have HA := Lib.hid hA
 obtain ⟨l0, l1, l2, l3, l4⟩ := ltt_get (hL.down hA)
 obtain ⟨m0, m1, -⟩ := (hM.down hA).two
 have HTT := Lib.hid (Has.alloc w (tstC t (.slice Gn t.names.length cn) (.slice Gk t.keys.length ck) (.slice Gt t.tests.length ct)) 40)
 obtain ⟨t0, t1, t2, t3, t4, t5, t6, t7⟩ := tst_cells HTT.out
 obtain ⟨Gv, cv, rfl, -⟩ := hj.flds.1
 clear hb hA hr hg hj hL hM hIH HTT
 obtain ⟨k, mt, p, ns, ks, o, lim, ts⟩ := t
 unfold tstC lttC at *
 simp only at *
 go_enter Tryz.func75, Tryz.ntmps75
 go_wp2_with fail
 refine HC.out.mono ?_
 rintro e w1 ⟨rfl, hb1⟩
 have HB1 := Lib.hid (bt HA.out hb1)
 clear hb1 HC
 go_wp2_with fail
 go_ret
 exact ⟨rfl, HB1.out⟩
theorem in2_any (n : Nat) (hIH : TestJ n) (t : Tst) (vs : List Value) (F : Dom) (x : Ltt) (v : Value) (body : ByteArray) (fs : List Fld) (m : Int) (L M I : Nat) (w : World) (hr : (cTst n).rep w F t vs) (hg : GoodT t) (hj : JIn w x v fs m) (hL : Has w L (lttC x)) (hM : Has w M [v, .string body])
    (hI : w.cell? ⟨I, 0, none⟩ = some (.func (.func 75) #[] #[.pointer (some ⟨L, 0, none⟩), .pointer (some ⟨M, 0, none⟩)])) :
    Calls Tryz.prog 77 #[.agg vs.toArray, .pointer (some ⟨I, 0, none⟩)] w (AskP (!(tstJ x fs t)) w) := by
 obtain ⟨_, Gn, cn, Gk, ck, Gt, ct, -, rfl, -⟩ := Sc.tst_open hr
 obtain ⟨b, hb⟩ : ∃ b, b = tstJ x fs t := ⟨_, rfl⟩
 have hA := ba (Below.refl w.heap.size w) (.cells (tstC t (.slice Gn t.names.length cn) (.slice Gk t.keys.length ck) (.slice Gt t.tests.length ct)).toArray 40)
 have HC := Lib.hid (in1_any n hIH t _ F x v body fs m L M _ ((cTst n).stable hr (Same.of_below hA) hA.size) hg (hj.down hA) (hL.down hA) (hM.down hA))
 rw [← hb] at HC ⊢
 have HA := Lib.hid hA
 have i0 := moved hI hA (Nat.le_refl _)
 have HTT := Lib.hid (Has.alloc w (tstC t (.slice Gn t.names.length cn) (.slice Gk t.keys.length ck) (.slice Gt t.tests.length ct)) 40)
 obtain ⟨t0, t1, t2, t3, t4, t5, t6, t7⟩ := tst_cells HTT.out
 clear hb hA hr hg hj hL hM hIH HTT hI
 obtain ⟨k, mt, p, ns, ks, o, lim, ts⟩ := t
 unfold tstC at *
 simp only at *
 go_enter Tryz.func77, Tryz.ntmps77
 go_wp2_with fail
 refine HC.out.mono ?_
 rintro e w1 ⟨rfl, hb1⟩
 have HB1 := Lib.hid (bt HA.out hb1)
 clear hb1 HC
 go_wp2_with fail
 go_ret
 exact ⟨rfl, HB1.out⟩
theorem any_of_one {x : Ltt} {fs : List Fld} {ts : List Tst} (h : ts.length = 1) : ts.any (tstJ x fs) = tstJ x fs (ts[0]'(by omega)) := by
 match ts, h with
 | [t], _ => simp
theorem all_not {x : Ltt} {fs : List Fld} (ts : List Tst) : (!(ts.any fun t => !(tstJ x fs t))) = ts.all (tstJ x fs) := by
 induction ts with
 | nil => rfl
 | cons a l ih => rw [List.any_cons, List.all_cons, ← ih]; cases tstJ x fs a <;> simp
theorem test_succ (n : Nat) (hIH : TestJ n) : TestJ (n + 1) := by
 intro t vs F x v body fs m w hr hg hj
 obtain ⟨n', Gn, cn, Gk, ck, Gt, ct, hn', rfl, hn, hk, ht⟩ := Sc.tst_open hr
 obtain rfl : n = n' := by omega
 obtain ⟨b, hb⟩ : ∃ b, b = tstJ x fs t := ⟨_, rfl⟩
 have heq := tstJ_eq x fs t
 rw [← hb] at heq ⊢
 have hf := hg.form.one
 obtain ⟨hns, hks, -⟩ := niceT_get hg.nice
 obtain ⟨-, -, hnl, hkl, htl⟩ := hg.len.one
 have HVN := Lib.hid (vars_new w t (.slice Gn t.names.length cn) (.slice Gk t.keys.length ck) (.slice Gt t.tests.length ct) x v body)
 have HN : Hid (KeysOk w F (.slice Gn t.names.length cn) t.names) := ⟨hn, hns, hnl⟩
 have HK : Hid (KeysOk w F (.slice Gk t.keys.length ck) t.keys) := ⟨hk, hks, hkl⟩
 have HTS := Lib.hid ht; have HG := Lib.hid hg.sub; have HJ := Lib.hid hj; have HIH := Lib.hid hIH; have HEQ := Lib.hid heq; have HF := Lib.hid hf
 clear hr hg hj hn hk ht hb heq hf hns hks hnl hkl hIH hn'
 obtain ⟨k, mt, p, ns, ks, o, lim, ts⟩ := t
 simp only at HEQ HF HG htl
 unfold tstC lttC at HVN ⊢
 simp only at HVN HN HK HTS ⊢
 obtain ⟨T, hT⟩ : ∃ T, T = w.heap.size := ⟨_, rfl⟩
 obtain ⟨L, hL⟩ : ∃ L, L = w.heap.size + 1 := ⟨_, rfl⟩
 obtain ⟨M, hM⟩ : ∃ M, M = w.heap.size + 1 + 1 := ⟨_, rfl⟩
 go_enter Tryz.func44, Tryz.ntmps44
 go_upto_region 1 with fail
 refine wp_here (R := fun W => (Vars W w.heap.size (w.heap.size + 1) (w.heap.size + 1 + 1) ⟨k, mt, p, ns, ks, o, lim, ts⟩ (.slice Gn ns.length cn) (.slice Gk ks.length ck) (.slice Gt ts.length ct) x v body ∧ Below w.heap.size w W)) ⟨HVN.out.1, HVN.out.2⟩ (fun W hW => ?_)
 obtain ⟨hV, hbW⟩ := hW
 rw [← hM, ← hL, ← hT] at hV ⊢
 clear HVN hM hL
 have HV := Lib.hid hV; have HBW := Lib.hid hbW
 have hI := ba (Below.refl W.heap.size W) (.cells #[.func (.func 75) #[] #[.pointer (some ⟨L, 0, none⟩), .pointer (some ⟨M, 0, none⟩)]] 173)
 have HI0 := Lib.hid (alloc_cell W #[.func (.func 75) #[] #[.pointer (some ⟨L, 0, none⟩), .pointer (some ⟨M, 0, none⟩)]] 173 0 _ rfl)
 have HBI := Lib.hid hI
 clear hV hbW hI
 go_upto_region 2 with fail
 refine wp_here (R := fun V => V.cell? ⟨W.heap.size, 0, none⟩ = some (.func (.func 75) #[] #[.pointer (some ⟨L, 0, none⟩), .pointer (some ⟨M, 0, none⟩)]) ∧ Below W.heap.size W V) ⟨HI0.out, HBI.out⟩ (fun V hV => ?_)
 obtain ⟨hI, hbV⟩ := hV
 obtain ⟨I, hIe⟩ : ∃ I, I = W.heap.size := ⟨_, rfl⟩
 rw [← hIe] at hI ⊢
 have HBV := Lib.hid (bt HBW.out hbV)
 have HVV := Lib.hid (HV.out.down hbV)
 have HII := Lib.hid hI
 have HNV := Lib.hid (HN.out.down HBV.out); have HKV := Lib.hid (HK.out.down HBV.out); have HTV := Lib.hid (HTS.out.down HBV.out); have HJV := Lib.hid (HJ.out.down HBV.out)
 obtain ⟨t0, t1, t2, t3, t4, t5, t6, t7⟩ := tst_cells HVV.out.t
 simp only at t0 t1 t2 t3 t4 t5 t6 t7
 clear hI hbV hIe HI0 HBI HV HBW HN HK HTS HJ hT
 by_cases h3 : k = 3
 ·subst h3
  have hf := HF.out
  unfold Form1 at hf
  have h1 : ts.length = 1 := by omega
  have hb3 : b = !(tstJ x fs (ts[0]'(by omega))) := by rw [HEQ.out, if_pos rfl, any_of_one h1]
  have hdr := Below.drew (Below.refl V.heap.size V)
  obtain ⟨g, off, Gn', cn', Gk', ck', Gt', ct', rfl, hrep, e0, e1, e2, e3, e4, e5, e6, e7⟩ := Sc.tst_get HTV.out (Same.of_below hdr) hdr.size 0 (by omega)
  have HC := Lib.hid (in1_any n HIH.out _ _ F x v body fs m L M V.drew hrep (HG.out _ (List.getElem_mem (by omega))) (HJV.out.down hdr) (HVV.out.l.down hdr) (HVV.out.m.down hdr))
  have HB3 := Lib.hid hb3
  obtain ⟨d, hd⟩ : ∃ d, d = tstJ x fs (ts[0]'(by omega)) := ⟨_, rfl⟩
  rw [← hd] at HC HB3
  have HH1 := Lib.hid h1
  rw [h1] at t7 ⊢
  generalize ts[0]'(by omega) = u at e0 e1 e2 e3 e4 e5 e6 e7 HC
  obtain ⟨y0, y1, y2, y3, y4, y5, y6, y7⟩ := u
  unfold tstC at HC
  simp only [Nat.zero_mul, Nat.add_zero] at HC e0 e1 e2 e3 e4 e5 e6 e7
  have i0 := moved HII.out hdr (Nat.le_refl _)
  have u7 := moved t7 hdr (Nat.le_refl _)
  have HDR := Lib.hid hdr
  clear hrep hdr hd hb3 h1 hf HF HEQ HG
  go_upto_region 4 with fail
  clear t0 t1 t2 t3 t4 t5 t6 t7
  refine wp_region_noPanic ?_
  go_region_held3 (fun w' => w'.cell? ⟨I, 0, none⟩ = some (.func (.func 75) #[] #[.pointer (some ⟨L, 0, none⟩), .pointer (some ⟨M, 0, none⟩)]) ∧ w'.cell? ⟨T, 7, none⟩ = some (.slice (some ⟨g, off, none⟩) 1 ct) ∧ w'.cell? ⟨g, off, none⟩ = some (.int .i64 y0) ∧ w'.cell? ⟨g, off + 1, none⟩ = some (.int .i64 y1) ∧ w'.cell? ⟨g, off + 2, none⟩ = some (.int .i64 y2) ∧ w'.cell? ⟨g, off + 3, none⟩ = some (.slice Gn' y3.length cn') ∧ w'.cell? ⟨g, off + 4, none⟩ = some (.slice Gk' y4.length ck') ∧ w'.cell? ⟨g, off + 5, none⟩ = some (.bool y5) ∧ w'.cell? ⟨g, off + 6, none⟩ = some (.int .i64 y6) ∧ w'.cell? ⟨g, off + 7, none⟩ = some (.slice Gt' y7.length ct')) (first | exact ⟨i0, u7, e0, e1, e2, e3, e4, e5, e6, e7⟩ | exact ⟨i0', u7', e0', e1', e2', e3', e4', e5', e6', e7'⟩) (first
   | (go_at_call 75; refine HC.out.mono ?_; rintro e w3 ⟨rfl, hb3⟩; have HB3W := Lib.hid (bt (bt HBV.out HDR.out) hb3); have i0' := moved i0 hb3 (Nat.le_refl _); have u7' := moved u7 hb3 (Nat.le_refl _); have e0' := moved e0 hb3 (Nat.le_refl _); have e1' := moved e1 hb3 (Nat.le_refl _); have e2' := moved e2 hb3 (Nat.le_refl _); have e3' := moved e3 hb3 (Nat.le_refl _); have e4' := moved e4 hb3 (Nat.le_refl _); have e5' := moved e5 hb3 (Nat.le_refl _); have e6' := moved e6 hb3 (Nat.le_refl _); have e7' := moved e7 hb3 (Nat.le_refl _)))
  all_goals
   refine NoPanic.normal ?_
   go_wp2_with fail
   go_ret
   exact ⟨congrArg (fun b => Ending.returned (.bool b)) HB3.out.symm, HB3W.out⟩
 ·by_cases h5 : k = 5
  ·subst h5
   have HC : Hid (Calls Tryz.prog 76 #[.slice Gt ts.length ct, .func (.func 75) #[] #[.pointer (some ⟨L, 0, none⟩), .pointer (some ⟨M, 0, none⟩)]] V fun e w' => e = .returned (.bool (ts.any (tstJ x fs))) ∧ Below V.heap.size V w') :=
    containsT_any 75 [.pointer (some ⟨L, 0, none⟩), .pointer (some ⟨M, 0, none⟩)] n (tstJ x fs) _ ts F V HTV.out htl ent_test1 fun j hj vs w' hb hr =>
     in1_any n HIH.out _ vs F x v body fs m L M w' hr (HG.out _ (List.getElem_mem _)) (HJV.out.down hb) (HVV.out.l.down hb) (HVV.out.m.down hb)
   have hbb : b = ts.any (tstJ x fs) := by rw [HEQ.out, if_neg (by decide), if_pos rfl]
   rw [← hbb] at HC
   have i0 := HII.out
   clear hbb HEQ HG HF h3
   go_wp2_with fail
   refine HC.out.mono ?_
   rintro e w1 ⟨rfl, hb1⟩
   have HB1 := Lib.hid (bt HBV.out hb1)
   clear hb1 HC
   go_wp2_with fail
   go_ret
   exact ⟨rfl, HB1.out⟩
  ·by_cases h4 : k = 4
   ·subst h4
    have HC : Hid (Calls Tryz.prog 76 #[.slice Gt ts.length ct, .func (.func 77) #[] #[.pointer (some ⟨I, 0, none⟩)]] V fun e w' => e = .returned (.bool (ts.any fun t => !(tstJ x fs t))) ∧ Below V.heap.size V w') :=
     containsT_any 77 [.pointer (some ⟨I, 0, none⟩)] n (fun t => !(tstJ x fs t)) _ ts F V HTV.out htl ent_test2 fun j hj vs w' hb hr =>
      in2_any n HIH.out _ vs F x v body fs m L M I w' hr (HG.out _ (List.getElem_mem _)) (HJV.out.down hb) (HVV.out.l.down hb) (HVV.out.m.down hb) (moved HII.out hb (Nat.le_refl _))
    have hbb : b = !(ts.any fun t => !(tstJ x fs t)) := by rw [HEQ.out, if_neg (by decide), if_neg (by decide), if_pos rfl, all_not]
    obtain ⟨d, hd⟩ : ∃ d, d = ts.any fun t => !(tstJ x fs t) := ⟨_, rfl⟩
    rw [← hd] at HC hbb
    have HBB := Lib.hid hbb
    clear hbb HEQ HG HF h3 h5 hd
    go_wp2_with fail
    refine HC.out.mono ?_
    rintro e w1 ⟨rfl, hb1⟩
    have HB1 := Lib.hid (bt HBV.out hb1)
    clear hb1 HC
    go_wp2_with fail
    go_ret
    exact ⟨congrArg (fun b => Ending.returned (.bool b)) HBB.out.symm, HB1.out⟩
   ·have HC := Lib.hid (ask_any ⟨k, mt, p, ns, ks, o, lim, ts⟩ F (.slice Gn ns.length cn) (.slice Gk ks.length ck) (.slice Gt ts.length ct) v x body fs m V ⟨HF.out, HNV.out, HKV.out, HJV.out.ltt, HJV.out.flds, HJV.out.max⟩ (by show ¬ (3 ≤ k ∧ k ≤ 5); omega))
    have hbb : b = askL x fs k mt p ns ks o lim := by rw [HEQ.out, if_neg h3, if_neg h5, if_neg h4]
    simp only at HC
    rw [← hbb] at HC
    unfold tstC lttC at HC
    simp only at HC
    obtain ⟨l0, l1, l2, l3, l4⟩ := ltt_get HVV.out.l
    obtain ⟨m0, m1, -⟩ := HVV.out.m.two
    have q3 : (k == 3) = false := beq_eq_false_iff_ne.2 h3
    have q5 : (k == 5) = false := beq_eq_false_iff_ne.2 h5
    have q4 : (k == 4) = false := beq_eq_false_iff_ne.2 h4
    obtain ⟨Gv, cv, rfl, -⟩ := HJV.out.flds.1
    clear hbb HEQ HG HF h3 h5 h4
    go_wp2_with fail
    refine HC.out.mono ?_
    rintro e w1 ⟨rfl, hb1⟩
    have HB1 := Lib.hid (bt HBV.out hb1)
    clear hb1 HC
    go_wp2_with fail
    go_ret
    exact ⟨rfl, HB1.out⟩
theorem test_every : ∀ n, TestJ n
 | 0 => fun _ _ _ _ _ _ _ _ _ h => h.elim
 | n + 1 => test_succ n (test_every n)
end Go.Proofs.YtpfbkdbblpppdaaGreatDoor.Jd
namespace Go.Proofs.YtpfbkdbblpppdaaGreatDoor.Jd
open Go.RowKit
open Sc (Str Tst cStr strC tstC cTst)
theorem res_two {w wr : World} {R : Nat} {a c : Value} (hbel : Below w.heap.size w wr) (hR : w.heap.size ≤ R) (z0 : wr.cell? ⟨R, 0, none⟩ = some a) (z1 : wr.cell? ⟨R, 1, none⟩ = some c) (v c' : Value) :
    ((wr.setCell ⟨R, 0, none⟩ v).setCell ⟨R, 1, none⟩ c').cell? ⟨R, 0, none⟩ = some v ∧ ((wr.setCell ⟨R, 0, none⟩ v).setCell ⟨R, 1, none⟩ c').cell? ⟨R, 1, none⟩ = some c' ∧ Below w.heap.size w ((wr.setCell ⟨R, 0, none⟩ v).setCell ⟨R, 1, none⟩ c') := by
 have n1 : (⟨R, 0, none⟩ : Addr) ≠ ⟨R, 1, none⟩ := by simp
 have n2 : (⟨R, 1, none⟩ : Addr) ≠ ⟨R, 0, none⟩ := Ne.symm n1
 refine ⟨(World.cell?_setCell_other _ _ _ _ n2).trans (World.cell?_setCell_same _ _ _ z0), World.cell?_setCell_same _ _ _ ((World.cell?_setCell_other _ _ _ _ n1).trans z1), (hbel.setCell (by show w.heap.size ≤ R; exact hR) v).setCell (by show w.heap.size ≤ R; exact hR) c'⟩
structure LetOK (x : Ltt) (fs : List Fld) (body : Str) : Prop where
 from_ : chk x.fa x.fd = 0
 to_ : chk x.ta x.td = 0
 size : x.text.length ≤ 2000
 msg : parseL 0 [] x.text = ((fs, body), 0, 0)
 flds : (∀ f ∈ fs, f.1.length ≤ 2000 ∧ f.2.length ≤ 2000) ∧ fs.length ≤ 30
theorem LetOK.ltt {x : Ltt} {fs : List Fld} {body : Str} (h : LetOK x fs body) : LttOk x := by
 have h1 := chk_len h.from_
 have h2 := chk_len h.to_
 have h3 := h.size
 exact ⟨⟨by omega, by omega⟩, ⟨by omega, by omega⟩, h3⟩
def ChkP (fs : List Fld) (body : Str) (w : World) (e : Ending) (w' : World) : Prop := ∃ v, e = .returned (.tuple #[.agg #[v, .string ⟨body.toArray⟩], .int .i64 0]) ∧ FldsAt w' v fs ∧ Below w.heap.size w w'
theorem jcheck_any (x : Ltt) (fs : List Fld) (body : Str) (m : Int) (w : World) (h : LetOK x fs body) (hm : w.cell? ⟨6, 0, none⟩ = some (.int .i64 m)) :
    Calls Tryz.prog 43 #[.agg (lttC x).toArray] w (ChkP fs body w) := by
 have hx := h.ltt
 obtain ⟨hxf, hxt, hxs⟩ := hx
 have HC1 : Hid (∀ V, Below w.heap.size w V → Calls Tryz.prog 58 #[.agg #[.string ⟨x.fa.toArray⟩, .string ⟨x.fd.toArray⟩]] V fun e w' => e = .returned (.int .i64 0) ∧ Below V.heap.size V w') := fun V hV => by
  have := check_any ⟨x.fa.toArray⟩ ⟨x.fd.toArray⟩ m V hxf.1 hxf.2 (moved hm hV (Nat.le_refl _))
  rw [show chk (⟨x.fa.toArray⟩ : ByteArray).data.toList (⟨x.fd.toArray⟩ : ByteArray).data.toList = 0 from h.from_] at this
  exact this
 have HC2 : Hid (∀ V, Below w.heap.size w V → Calls Tryz.prog 58 #[.agg #[.string ⟨x.ta.toArray⟩, .string ⟨x.td.toArray⟩]] V fun e w' => e = .returned (.int .i64 0) ∧ Below V.heap.size V w') := fun V hV => by
  have := check_any ⟨x.ta.toArray⟩ ⟨x.td.toArray⟩ m V hxt.1 hxt.2 (moved hm hV (Nat.le_refl _))
  rw [show chk (⟨x.ta.toArray⟩ : ByteArray).data.toList (⟨x.td.toArray⟩ : ByteArray).data.toList = 0 from h.to_] at this
  exact this
 have HP : Hid (∀ V, Below w.heap.size w V → Calls Tryz.prog 74 #[.string ⟨x.text.toArray⟩] V fun e w' => (∃ v, e = .returned (.tuple #[.agg #[v, .string ⟨body.toArray⟩], .int .i64 0, .int .i64 0]) ∧ w'.ownsRow V.heap.size 104 2 v fs.length (fcells fs)) ∧ Below V.heap.size V w') := fun V hV => by
  refine (parse_any ⟨x.text.toArray⟩ m V hxs (moved hm hV (Nat.le_refl _))).mono ?_
  intro e w' ⟨hp, hb⟩
  unfold ParseSays at hp
  rw [show parseL 0 [] (⟨x.text.toArray⟩ : ByteArray).data.toList = ((fs, body), 0, 0) from h.msg] at hp
  obtain ⟨v, he, ho⟩ := hp
  exact ⟨⟨v, he, ho⟩, hb⟩
 have hix0 : ∀ V : World, (Instr.index 170 (.agg #[.string ⟨x.fa.toArray⟩, .string ⟨x.fd.toArray⟩, .string ⟨x.ta.toArray⟩, .string ⟨x.td.toArray⟩]) (.int .i64 0)).run Tryz.prog V = .ok (.agg #[.string ⟨x.fa.toArray⟩, .string ⟨x.fd.toArray⟩]) V := fun _ => by kernel_rfl
 have hix1 : ∀ V : World, (Instr.index 170 (.agg #[.string ⟨x.fa.toArray⟩, .string ⟨x.fd.toArray⟩, .string ⟨x.ta.toArray⟩, .string ⟨x.td.toArray⟩]) (.int .i64 1)).run Tryz.prog V = .ok (.agg #[.string ⟨x.ta.toArray⟩, .string ⟨x.td.toArray⟩]) V := fun _ => by kernel_rfl
 have hA1 := ba (Below.refl w.heap.size w) (.cells (lttC x).toArray 33)
 have hA2 := ba (Below.refl (w.alloc (.cells (lttC x).toArray 33)).heap.size (w.alloc (.cells (lttC x).toArray 33))) (.cells #[.slice none 0 0, .string ⟨#[]⟩] 100)
 have hL0 := (Has.alloc w (lttC x) 33).down hA2
 have hR0 := Has.alloc (w.alloc (.cells (lttC x).toArray 33)) [.slice none 0 0, .string ⟨#[]⟩] 100
 rw [World.size_alloc] at hR0
 have HL0 := Lib.hid hL0; have HR0 := Lib.hid hR0; have HA0 := Lib.hid (bt hA1 hA2)
 clear hA1 hA2 hL0 hR0 hxf hxt hxs h hm
 unfold lttC at HL0 HA0 HR0 ⊢
 go_enter Tryz.func43, Tryz.ntmps43
 go_upto_region 1 with fail
 refine wp_here (R := fun W => Has W w.heap.size (lttC x) ∧ Has W (w.heap.size + 1) [.slice none 0 0, .string ⟨#[]⟩] ∧ Below w.heap.size w W) ⟨HL0.out, HR0.out, HA0.out⟩ (fun W hW => ?_)
 obtain ⟨hL, hR, hB⟩ := hW
 clear HL0 HR0 HA0
 obtain ⟨L, hLe⟩ : ∃ L, L = w.heap.size := ⟨_, rfl⟩
 obtain ⟨R, hRe⟩ : ∃ R, R = w.heap.size + 1 := ⟨_, rfl⟩
 rw [← hLe] at hL
 rw [← hRe] at hR
 rw [← hRe, ← hLe]
 obtain ⟨l0, l1, l2, l3, l4⟩ := ltt_get hL
 have HL := Lib.hid hL; have HR := Lib.hid hR; have HB := Lib.hid hB
 have HRe := Lib.hid hRe
 clear hL hR hB hLe hRe
 go_wp2_with fail
 clear l0 l1 l2 l3 l4
 go_loopw [15] (fun i wr => ∃ j : Nat, j ≤ 2 ∧ i = .int .i64 j ∧ Below W.heap.size W wr) (fun i _ => 2 - (intOf i).toNat)
 case atStart => exact ⟨0, by omega, rfl, Below.refl _ _⟩
 case round =>
  obtain ⟨j, hj, rfl, hb⟩ := hrel
  have h3 : j = 0 ∨ j = 1 ∨ j = 2 := by omega
  clear hj
  rcases h3 with rfl | rfl | rfl
  ·have hA := ba (Below.refl wr.heap.size wr) (.cells #[.string ⟨x.fa.toArray⟩, .string ⟨x.fd.toArray⟩] 31)
   have HH := Lib.hid (Has.alloc wr [.string ⟨x.fa.toArray⟩, .string ⟨x.fd.toArray⟩] 31)
   have HC := Lib.hid (HC1.out _ (bt (bt HB.out hb) hA))
   have HBA := Lib.hid (bt hb hA)
   obtain ⟨c0, c1, -⟩ := HH.out.two
   clear hA hb HH
   go_wp2_with fail
   refine HC.out.mono ?_
   rintro e w1 ⟨rfl, hb1⟩
   have HB1 := Lib.hid (bt HBA.out hb1)
   clear hb1 HC c0 c1
   go_wp2_with fail
   go_roundw
   case rel => exact ⟨1, by omega, rfl, HB1.out⟩
   case measure => simp [intOf]
  ·have hA := ba (Below.refl wr.heap.size wr) (.cells #[.string ⟨x.ta.toArray⟩, .string ⟨x.td.toArray⟩] 31)
   have HH := Lib.hid (Has.alloc wr [.string ⟨x.ta.toArray⟩, .string ⟨x.td.toArray⟩] 31)
   have HC := Lib.hid (HC2.out _ (bt (bt HB.out hb) hA))
   have HBA := Lib.hid (bt hb hA)
   obtain ⟨c0, c1, -⟩ := HH.out.two
   clear hA hb HH
   go_wp2_with fail
   refine HC.out.mono ?_
   rintro e w1 ⟨rfl, hb1⟩
   have HB1 := Lib.hid (bt HBA.out hb1)
   clear hb1 HC c0 c1
   go_wp2_with fail
   go_roundw
   case rel => exact ⟨2, by omega, rfl, HB1.out⟩
   case measure => simp [intOf]
  ·obtain ⟨-, -, -, -, l4⟩ := ltt_get (HL.out.down hb)
   have HPC := Lib.hid (HP.out _ (bt HB.out hb))
   have HBW := Lib.hid hb
   clear hb
   go_wp2_with fail
   refine HPC.out.mono ?_
   rintro e w5 ⟨⟨v, rfl, hf⟩, hb5⟩
   obtain ⟨G, cap, rfl⟩ := Sc.row_slice hf
   have hA := ba (Below.refl w5.heap.size w5) (.cells #[.slice G fs.length cap, .string ⟨body.toArray⟩] 100)
   obtain ⟨c0, c1, -⟩ := (Has.alloc w5 [.slice G fs.length cap, .string ⟨body.toArray⟩] 100).two
   have hbA := bt (bt HBW.out hb5) hA
   have hRA := HR.out.down hbA
   obtain ⟨r0, r1, rf0, rf1⟩ := hRA.two
   obtain ⟨e0, e1, hbF⟩ := res_two (bt HB.out hbA) (by have := HRe.out; omega) r0 r1 (.slice G fs.length cap) (.string ⟨body.toArray⟩)
   have hfA := row_down hf hA
   have hRlt : R < wr.heap.size := Nat.lt_of_lt_of_le HR.out.2.2 HBW.out.size
   have HFE : Hid (FldsAt ((((w5.alloc (.cells #[.slice G fs.length cap, .string ⟨body.toArray⟩] 100)).setCell ⟨R, 0, none⟩ (.slice G fs.length cap)).setCell ⟨R, 1, none⟩ (.string ⟨body.toArray⟩))) (.slice G fs.length cap) fs) := FldsAt.of_row (row_else (row_else hfA hRlt 0 _) hRlt 1 _)
   clear hf hb5 hA hbA hfA hRA HPC hRlt
   go_wp2_with fail
   refine bodyPost_ret (v := .tuple #[.agg #[.slice G fs.length cap, .string ⟨body.toArray⟩], .int .i64 0]) (by simp [results, Tryz.results43, go_sem, e0, e1]) rfl ?_
   exact ⟨_, rfl, HFE.out, hbF⟩
end Go.Proofs.YtpfbkdbblpppdaaGreatDoor.Jd
namespace Go.Proofs.YtpfbkdbblpppdaaGreatDoor.Jd
open Go.RowKit
open Sc (Str Tst Cmd cStr strC tstC cTst cCmd RW Stk cStk)
def ltrX (a0 a1 b0 b1 : ByteArray) (x : Nat → Nat → ByteArray) (n : Nat) (bo : ByteArray) : Ltt :=
 ⟨(addrL a0.data.toList).data.toList, (addrD a1.data.toList).data.toList, (addrL b0.data.toList).data.toList, (addrD b1.data.toList).data.toList, ltrT x n bo.data.toList⟩
theorem letF_small {f : Fld} (h : f.2.length ≤ 40) : (letF f).1.length ≤ 2000 ∧ (letF f).2.length ≤ 2000 := by
 have h1 := (letN_ok f.2.length).2
 refine ⟨by show (letN f.2.length).length ≤ _; omega, ?_⟩
 unfold letF
 simp only
 split
 ·decide
 ·omega
theorem ltrX_ok (a0 a1 b0 b1 : ByteArray) (x : Nat → Nat → ByteArray) (n : Nat) (bo : ByteArray) : LetOK (ltrX a0 a1 b0 b1 x n bo) (ltrFs x n) (bo.data.toList.take 100) := by
 refine ⟨chk_ok _ _, chk_ok _ _, ?_, ?_, ?_, ?_⟩
 ·have := (ltrT_len x n bo.data.toList).2
  show (ltrT x n bo.data.toList).length ≤ 2000
  omega
 ·exact parse_show _ _ (ltrFs_good x n) (by rw [ltrFs_len]; omega)
 ·intro f hf
  unfold ltrFs at hf
  obtain ⟨g, hg, rfl⟩ := List.mem_map.1 hf
  exact letF_small (msg_val x _ g hg)
 ·rw [ltrFs_len]; omega
def LetterP (x : Ltt) (w : World) (e : Ending) (w' : World) : Prop := e = .returned (.tuple #[.agg (lttC x).toArray, .bool true]) ∧ Below w.heap.size w w'
structure PostIn (w : World) (a0 a1 a2 b0 b1 b2 : ByteArray) (G : Option Addr) (n c : Nat) (x : Nat → Nat → ByteArray) (bo : ByteArray) : Prop where
 h0 : a0.size ≤ maxLen
 h1 : a1.size ≤ maxLen
 k0 : b0.size ≤ maxLen
 k1 : b1.size ≤ maxLen
 hx : StrRows w G n 2 x ∧ n ≤ maxLen
 hbo : bo.size ≤ maxLen
theorem rows_down {w w' : World} {a : Option Addr} {len k : Nat} {x : Nat → Nat → ByteArray} (h : StrRows w a len k x) (hb : Below w.heap.size w w') : StrRows w' a len k x := by
 intro i hi
 obtain ⟨b, off, ha, hl, hc⟩ := h i hi
 exact ⟨b, off, ha, Nat.lt_of_lt_of_le hl hb.size, fun j hj => ⟨moved (hc j hj).1 hb (Nat.le_refl _), (hc j hj).2⟩⟩
theorem PostIn.down {w w' : World} {a0 a1 a2 b0 b1 b2 : ByteArray} {G : Option Addr} {n c : Nat} {x : Nat → Nat → ByteArray} {bo : ByteArray} (h : PostIn w a0 a1 a2 b0 b1 b2 G n c x bo) (hb : Below w.heap.size w w') : PostIn w' a0 a1 a2 b0 b1 b2 G n c x bo :=
 ⟨h.h0, h.h1, h.k0, h.k1, ⟨rows_down h.hx.1 hb, h.hx.2⟩, h.hbo⟩
theorem letterX_any (a0 a1 a2 b0 b1 b2 : ByteArray) (G : Option Addr) (n c : Nat) (x : Nat → Nat → ByteArray) (bo : ByteArray) (m : Int) (w : World) (h : PostIn w a0 a1 a2 b0 b1 b2 G n c x bo) (hm : w.cell? ⟨6, 0, none⟩ = some (.int .i64 m)) :
    Calls Tryz.prog 14 #[.agg #[.string a0, .string a1, .string a2, .string b0, .string b1, .string b2, .slice G n c, .string bo]] w (LetterP (ltrX a0 a1 b0 b1 x n bo) w) := by
 refine (letter_any a0 a1 a2 b0 b1 b2 G n c x bo m w h.h0 h.h1 h.k0 h.k1 h.hx h.hbo hm).mono ?_
 rintro e w' ⟨rfl, hb⟩
 refine ⟨?_, hb⟩
 unfold lttC ltrX
 simp only [Lib.mk_data]
end Go.Proofs.YtpfbkdbblpppdaaGreatDoor.Jd
