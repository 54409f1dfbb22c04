/-
  DERIVED. 'address' of lmtp: the walk.
-/
import Derived.Test.YtdhepaeephmhiaaDoorLmtp2
namespace Go.Proofs.YtdhepaeephmhiaaDoor
open Go.RowKit

/-- what 'address' answers: the address, if there is just one, in < and > -/
def AdrPost (o : Option Ad) (w : World) (e : Ending) (w' : World) : Prop :=
  (∃ x y, e = .returned (.tuple #[.agg #[.string x, .string y], .bool o.isSome]) ∧ ∀ a, o = some a → x = ⟨a.1.toArray⟩ ∧ y = ⟨a.2.toArray⟩) ∧ Below w.heap.size w w'
theorem bytes_app (a b c : ByteArray) (l : List UInt8) (h : a.data.toList ++ b.data.toList ++ c.data.toList = l) : a ++ b ++ c = ⟨l.toArray⟩ := by
  rw [← Lib.mk_data (a ++ b ++ c), ← h]
  congr 2
  try simp
theorem part_all {a : Ad} (h : chk a.1 a.2 = 0) : partV 1 ⟨a.1.toArray⟩ ⟨a.2.toArray⟩ = (⟨(a.1 ++ 64 :: a.2).toArray⟩, 0) := by
  unfold partV
  rw [if_neg (by simpa using h), if_pos rfl]
  congr 1
  exact bytes_app _ _ _ _ (by simp)
theorem chk_len {x y : List UInt8} (h : chk x y = 0) : x.length ≤ 100 ∧ y.length ≤ 100 := by
  unfold chk at h
  split at h
  · split at h
    · cases h
    · omega
  · cases h
theorem angle_eq (S : ByteArray) (l : List UInt8) : (S.toList == ((⟨#[60]⟩ : ByteArray) ++ ⟨l.toArray⟩ ++ ⟨#[62]⟩).toList) = decide (S.data.toList = 60 :: (l ++ [62])) := by
  rw [ByteArray.toList_eq, ByteArray.toList_eq]
  have : ((⟨#[60]⟩ : ByteArray) ++ ⟨l.toArray⟩ ++ ⟨#[62]⟩).data.toList = 60 :: (l ++ [62]) := by simp
  rw [this]
  cases h : decide (S.data.toList = 60 :: (l ++ [62])) with
  | true => exact beq_iff_eq.2 (of_decide_eq_true h)
  | false => exact beq_eq_false_iff_ne.2 (of_decide_eq_false h)
theorem adr_end {R : Nat} {x y : ByteArray} {o : Option Ad} {a : Act} {W w : World} (ht : a.tmps.getD 2 undef = .pointer (some ⟨R, 0, none⟩)) (ht3 : a.tmps.getD 3 undef = .bool o.isSome) (hd : a.defers = [])
    (h : Has W R [.string x, .string y]) (hp : ∀ a, o = some a → x = ⟨a.1.toArray⟩ ∧ y = ⟨a.2.toArray⟩) (hb : Below w.heap.size w W) : bodyPost Tryd.prog Tryd.f64 (AdrPost o w) .ret a W := by
  obtain ⟨c0, c1', _, _⟩ := h.two
  refine bodyPost_ret (v := .tuple #[.agg #[.string x, .string y], .bool o.isSome]) ?_ hd ⟨⟨x, y, rfl, hp⟩, hb⟩
  have ht' : a.tmps[2]?.getD undef = .pointer (some ⟨R, 0, none⟩) := by simpa using ht
  have ht3' : a.tmps[3]?.getD undef = .bool o.isSome := by simpa using ht3
  simp [results, Tryd.results64, go_sem, ht', ht3', c0, c1']

set_option maxHeartbeats 2000000 in
set_option maxRecDepth 20000 in
theorem adr_any (S : ByteArray) (m : Int) (w : World) (hs : S.size ≤ 2000) (hm : w.cell? ⟨0, 0, none⟩ = some (.int .i64 m)) :
    Calls Tryd.prog 64 #[.string S] w (AdrPost (adrS S.data.toList) w) := by
  have hA := ba (Below.refl w.heap.size w) (.cells #[.string ⟨#[]⟩, .string ⟨#[]⟩] 44)
  have HX := Lib.hid (Has.alloc w [.string ⟨#[]⟩, .string ⟨#[]⟩] 44)
  have HL := Lib.hid (list_any S m _ hs (moved hm hA (Nat.le_refl _)))
  have HM := Lib.hid (moved hm hA (Nat.le_refl _)); have HA := Lib.hid hA
  have hls : S.data.toList.length = S.size := by simp
  clear hA hm
  go_enter Tryd.func64, Tryd.ntmps64
  go_wp2_with fail
  refine HL.out.mono ?_
  rintro e w1 ⟨hsays, hb1⟩
  have HX1 := Lib.hid (HX.out.down hb1); have HA1 := Lib.hid (bt HA.out hb1); have HM1 := Lib.hid (moved HM.out hb1 (Nat.le_refl _))
  obtain ⟨c0, c1, f0, f1⟩ := HX1.out.two
  have hz := HX1.out.2.2
  clear hb1 HX HA HM HL
  rcases hsays with ⟨hn, rfl⟩ | ⟨ys, hn, hy, rfl⟩ | ⟨ys, v, hn, hy, rfl, hown⟩
  · have ho : Hid (adrS S.data.toList = none) := by unfold Hid adrS; rw [hn]
    clear hn
    go_wp2_with fail
    exact adr_end (R := w.heap.size) rfl (by rw [ho.out]; rfl) rfl ((HX1.out.set' (i := 0) _ (by simp)).set' (i := 1) _ (by simp)) (fun a h => by rw [ho.out] at h; cases h) ((HA1.out.setCell (p := ⟨w.heap.size, 0, none⟩) (Nat.le_refl _) _).setCell (p := ⟨w.heap.size, 1, none⟩) (Nat.le_refl _) _)
  · have ho : Hid (adrS S.data.toList = none) := by
      unfold Hid adrS; rw [hn]
      split
      · rename_i a h
        obtain rfl := Option.some.inj h
        simp at hy
      · rfl
    clear hn
    go_wp2_with fail
    exact adr_end (R := w.heap.size) rfl (by rw [ho.out]; rfl) rfl ((HX1.out.set' (i := 0) _ (by simp)).set' (i := 1) _ (by simp)) (fun a h => by rw [ho.out] at h; cases h) ((HA1.out.setCell (p := ⟨w.heap.size, 0, none⟩) (Nat.le_refl _) _).setCell (p := ⟨w.heap.size, 1, none⟩) (Nat.le_refl _) _)
  · by_cases h1 : ys.length = 1
    · obtain ⟨a, rfl⟩ := List.length_eq_one_iff.1 h1
      have hchk := listP_chk _ _ _ hn a (List.mem_singleton_self _)
      obtain ⟨g, cap, rfl, hbg, hg⟩ := World.ownsRow.form hown (by show 0 < 1; omega)
      have q0 : w1.cell? ⟨g, 0, none⟩ = some (.string ⟨a.1.toArray⟩) := (World.ownsRow.cellAt hown 0 (by simp)).trans rfl
      have q1 : w1.cell? ⟨g, 1, none⟩ = some (.string ⟨a.2.toArray⟩) := (World.ownsRow.cellAt hown 1 (by simp)).trans rfl
      obtain ⟨hl1, hl2⟩ := chk_len hchk
      have HP : Hid (∀ w', Below w1.heap.size w1 w' → Calls Tryd.prog 81 #[.int .i64 1, .agg #[.string ⟨a.1.toArray⟩, .string ⟨a.2.toArray⟩]] w' fun e w'' => e = .returned (.tuple #[.string ⟨(a.1 ++ 64 :: a.2).toArray⟩, .int .i64 0]) ∧ Below w'.heap.size w' w'') := by
        intro w' hb
        have := part_any 1 ⟨a.1.toArray⟩ ⟨a.2.toArray⟩ m w' (by show a.1.toArray.size ≤ _; simp; omega) (by show a.2.toArray.size ≤ _; simp; omega) (moved HM1.out hb (Nat.le_refl _))
        rw [part_all hchk] at this
        exact this
      have HO : Hid (adrS S.data.toList = if S.data.toList = 60 :: (a.1 ++ 64 :: (a.2 ++ [62])) then some a else none) := by unfold Hid adrS; rw [hn]
      clear hn hown h1 hchk
      go_wp2_with fail
      refine (HP.out _ (Below.refl _ _)).mono ?_
      rintro e w2 ⟨rfl, hb2⟩
      have HX2 := Lib.hid (HX1.out.down hb2); have HA2 := Lib.hid (bt HA1.out hb2)
      replace q0 := moved q0 hb2 (Nat.le_refl _); replace q1 := moved q1 hb2 (Nat.le_refl _)
      have hbz := hb2.size
      clear hb2 c0 c1 f0 f1 HP
      obtain ⟨c0, c1, f0, f1⟩ := HX2.out.two
      go_wp2_with fail
      have HO2 : Hid ((S.toList == ((⟨#[60]⟩ : ByteArray) ++ ⟨(a.1 ++ 64 :: a.2).toArray⟩ ++ ⟨#[62]⟩).toList) = (adrS S.data.toList).isSome ∧ ∀ b, adrS S.data.toList = some b → b = a) := by
        unfold Hid
        rw [angle_eq, HO.out]
        have e : 60 :: ((a.1 ++ 64 :: a.2) ++ [62]) = 60 :: (a.1 ++ 64 :: (a.2 ++ [62])) := by simp
        rw [e]
        by_cases h : S.data.toList = 60 :: (a.1 ++ 64 :: (a.2 ++ [62]))
        · rw [if_pos h]; exact ⟨by simp [h], fun b hb => (Option.some.inj hb).symm⟩
        · rw [if_neg h]; exact ⟨by simp [h], fun b hb => by cases hb⟩
      exact adr_end (R := w.heap.size) rfl (by rw [← HO2.out.1]; rfl) rfl ((HX2.out.set' (i := 0) _ (by simp)).set' (i := 1) _ (by simp)) (fun b hb => by rw [HO2.out.2 b hb]; exact ⟨rfl, rfl⟩) ((HA2.out.setCell (p := ⟨w.heap.size, 0, none⟩) (Nat.le_refl _) _).setCell (p := ⟨w.heap.size, 1, none⟩) (Nat.le_refl _) _)
    · have ho : Hid (adrS S.data.toList = none) := by
        unfold Hid adrS; rw [hn]
        split
        · rename_i a h
          obtain rfl := Option.some.inj h
          exact absurd rfl h1
        · rfl
      have hsl : ∃ G c, v = .slice G ys.length c := by obtain ⟨a, cap, h⟩ := SliceOf.own hown; exact ⟨a, cap, h⟩
      obtain ⟨G, c, rfl⟩ := hsl
      have q : ((ys.length : Int) == 1) = false := by simp; omega
      clear hn hown h1
      go_wp2_with fail
      exact adr_end (R := w.heap.size) rfl (by rw [ho.out]; rfl) rfl ((HX1.out.set' (i := 0) _ (by simp)).set' (i := 1) _ (by simp)) (fun a h => by rw [ho.out] at h; cases h) ((HA1.out.setCell (p := ⟨w.heap.size, 0, none⟩) (Nat.le_refl _) _).setCell (p := ⟨w.heap.size, 1, none⟩) (Nat.le_refl _) _)
end Go.Proofs.YtdhepaeephmhiaaDoor
