/-
  DERIVED. 'rest' of lmtp, 'Clone' of addresses, 'TrimPrefix' of a dot, 'Fold', 'address' of lmtp: the walks.
-/
import Derived.Test.YtdhepaeephmhiaaDoorLmtp1
import Derived.Test.YtdhepaeephmhiaaDoorPart
namespace Go.Proofs.YtdhepaeephmhiaaDoor
open Go.RowKit

theorem ext_take (S : ByteArray) (n : Nat) : (S.extract 0 n).data.toList = S.data.toList.take n := by rw [extract_first]
theorem ext_drop (S : ByteArray) (n : Nat) : S.extract n S.size = ⟨(S.data.toList.drop n).toArray⟩ := by
  rw [Lib.extract_eq]
  congr 2
  rw [List.take_of_length_le]
  simp
theorem rest_cases (line word : List UInt8) : (line.length < word.length ∧ restL line word = none) ∨ (word.length ≤ line.length ∧ foldL (line.take word.length) ≠ foldL word ∧ restL line word = none) ∨ (word.length ≤ line.length ∧ foldL (line.take word.length) = foldL word ∧ restL line word = some (line.drop word.length)) := by
  unfold restL
  by_cases h : line.length < word.length
  · exact .inl ⟨h, if_pos h⟩
  · by_cases h2 : foldL (line.take word.length) = foldL word
    · exact .inr (.inr ⟨by omega, h2, by rw [if_neg h, if_pos h2]⟩)
    · exact .inr (.inl ⟨by omega, h2, by rw [if_neg h, if_neg h2]⟩)

set_option maxHeartbeats 1000000 in
set_option maxRecDepth 20000 in
theorem rest_none (S P : ByteArray) (w : World) (hs : S.size ≤ 2000) (hp : P.size ≤ 100) (h : restL S.data.toList P.data.toList = none) :
    Calls Tryd.prog 45 #[.string S, .string P] w fun e w' => e = .returned (.tuple #[.string ⟨#[]⟩, .bool false]) ∧ Below w.heap.size w w' := by
  have hls : S.data.toList.length = S.size := by simp
  have hlp : P.data.toList.length = P.size := by simp
  rcases rest_cases S.data.toList P.data.toList with ⟨h1, -⟩ | ⟨h1, h2, -⟩ | ⟨h1, h2, h3⟩
  · have d : decide (S.size < P.size) = true := decide_eq_true (by omega)
    clear h hls hlp h1
    go_enter Tryd.func45, Tryd.ntmps45
    go_wp2_with fail
    go_ret2
    exact ⟨rfl, Below.refl _ _⟩
  · have hm := match1_any (S.extract 0 P.size) P w (by rw [ByteArray.size_extract]; omega) hp
    have hq : (foldL (S.extract 0 P.size).data.toList == foldL P.data.toList) = false := by
      rw [ext_take, beq_eq_false_iff_ne, ← hlp]; exact h2
    rw [hq] at hm
    have d : decide (S.size < P.size) = false := decide_eq_false (by omega)
    have hle : P.size ≤ S.size := by omega
    clear h hls hlp h1 h2 hq
    go_enter Tryd.func45, Tryd.ntmps45
    go_wp2_with fail
    refine hm.mono ?_
    rintro e w1 ⟨rfl, hb1⟩
    have HB := Lib.hid hb1
    clear hb1 hm
    go_wp2_with fail
    go_ret2
    exact ⟨rfl, HB.out⟩
  · rw [h3] at h; cases h
set_option maxHeartbeats 1000000 in
set_option maxRecDepth 20000 in
theorem rest_some (S P : ByteArray) (t : List UInt8) (w : World) (hs : S.size ≤ 2000) (hp : P.size ≤ 100) (h : restL S.data.toList P.data.toList = some t) :
    Calls Tryd.prog 45 #[.string S, .string P] w fun e w' => e = .returned (.tuple #[.string ⟨t.toArray⟩, .bool true]) ∧ Below w.heap.size w w' := by
  have hls : S.data.toList.length = S.size := by simp
  have hlp : P.data.toList.length = P.size := by simp
  rcases rest_cases S.data.toList P.data.toList with ⟨h1, h2⟩ | ⟨h1, -, h2⟩ | ⟨h1, h2, h3⟩
  · rw [h2] at h; cases h
  · rw [h2] at h; cases h
  · have hm := match1_any (S.extract 0 P.size) P w (by rw [ByteArray.size_extract]; omega) hp
    have hq : (foldL (S.extract 0 P.size).data.toList == foldL P.data.toList) = true := by
      rw [ext_take, beq_iff_eq, ← hlp]; exact h2
    rw [hq] at hm
    have ht : Hid ((⟨t.toArray⟩ : ByteArray) = S.extract P.size S.size) := by
      unfold Hid; rw [ext_drop]
      rw [h3] at h
      rw [← Option.some.inj h, hlp]
    have d : decide (S.size < P.size) = false := decide_eq_false (by omega)
    have hle : P.size ≤ S.size := by omega
    clear h hls hlp h1 h2 hq h3
    go_enter Tryd.func45, Tryd.ntmps45
    go_wp2_with fail
    refine hm.mono ?_
    rintro e w1 ⟨rfl, hb1⟩
    have HB := Lib.hid hb1
    clear hb1 hm
    go_wp2_with fail
    go_ret2
    exact ⟨by rw [ht.out]; rfl, HB.out⟩

set_option maxHeartbeats 2000000 in
set_option maxRecDepth 20000 in
theorem cloneA_any (v : Value) (l : List Ad) (F : Dom) (w : World) (h : SAt cAd w F v l) (hl : l.length ≤ 200000) :
    Calls Tryd.prog 24 #[v] w fun e w' => (∃ v', e = .returned v' ∧ w'.ownsRow w.heap.size 44 2 v' l.length (l.flatMap adC)) ∧ Below w.heap.size w w' := by
  obtain ⟨a, cap, rfl, hcap⟩ := h.form
  have q22 : ∀ (w : World) (a : Option Addr) (n c n' c' : Nat), (binOp .eql 47 (.slice a n c) (.slice none n' c')).run Tryd.prog w = .ok (.bool a.isNone) w := fun w a n c n' c' => Lib.run_eql_slice_nil w _ _ a n c n' c' Tryd.underlying47
  cases a with
  | none =>
    have hl0 : l = [] := by
      cases l with
      | nil => rfl
      | cons c l =>
        obtain ⟨_, _, _, h, _⟩ := h.get 0 (Nat.succ_pos _)
        cases h
    subst hl0
    go_enter Tryd.func24, Tryd.ntmps24
    go_wp2_with fail
    go_ret
    exact ⟨⟨_, rfl, World.ownsRow_nil _ _ _ _⟩, Below.refl _ _⟩
  | some x =>
    obtain ⟨i0, hi, hz0, hz1, hz2⟩ := info_parts infoAddr
    have HI := Lib.hid hi; have HZ0 := Lib.hid hz0; have HZ1 := Lib.hid hz1; have HZ2 := Lib.hid hz2
    clear hi hz0 hz1 hz2
    have hA := ba (Below.refl w.heap.size w) (.cells #[] 44)
    have A : Hid (∀ j u, (l.flatMap adC)[j]? = some u → (w.alloc (.cells #[] 44)).cell? (x.add j) = some u) := (h.down hA).cells
    have hlen : (l.flatMap adC).length = l.length * 2 := by
      have := hcells_length (k := 2) (ps := l.map fun x => (x, adC x)) (fun p hp => by obtain ⟨x, _, rfl⟩ := List.mem_map.1 hp; rfl)
      unfold hcells at this
      rwa [List.flatMap_map, List.length_map] at this
    have HL := Lib.hid hlen
    clear hlen hA h
    go_enter Tryd.func24, Tryd.ntmps24
    go_wp2_with (at_builtin; refine wpList_append_own _ rfl _ _ 47 rfl w.heap.size 44 i0 (.agg #[.string ⟨#[]⟩, .string ⟨#[]⟩]) 2 32 Tryd.underlying47 HI.out HZ0.out HZ1.out HZ2.out rfl (by decide) _ _ _ rfl (World.ownsRow_made w #[] 0 (Nat.le_refl _) (Nat.zero_le _) rfl) x l.length cap (l.flatMap adC) rfl ?qc1 A.out ?qc3 ?qc4 ?qc5 ?qc6 ?_)
    case qc1 => exact HL.out
    case qc3 => intro u hu; obtain ⟨y, _, hy⟩ := List.mem_flatMap.1 hu; simp [adC] at hy; rcases hy with rfl | rfl <;> rfl
    case qc4 => unfold maxLen; omega
    case qc5 => omega
    case qc6 => simp
    intro v' w1 hown hgrow _
    clear A
    go_wp2_with fail
    go_ret
    refine ⟨⟨v', rfl, by simpa using hown⟩, ?_⟩
    exact ((Below.refl _ w).alloc (Nat.le_refl _) _).grown hgrow (by simp) (by intro k hk; simp [Value.ownBlock] at hk; omega)

set_option maxHeartbeats 1000000 in
set_option maxRecDepth 20000 in
theorem Fold_any (S : ByteArray) (w : World) (hs : S.size ≤ 2000) :
    Calls Tryd.prog 48 #[.string S] w fun e w' => e = .returned (.tuple #[.string ⟨(foldL S.data.toList).toArray⟩, .int .i64 0]) ∧ Below w.heap.size w w' := by
  have d : decide ((2000 : Int) < S.size) = false := decide_eq_false (by omega)
  go_enter Tryd.func48, Tryd.ntmps48
  go_wp2_with fail
  refine (fold_any S w (by omega)).mono ?_
  rintro e w1 ⟨rfl, hb1⟩
  have HB := Lib.hid hb1
  clear hb1
  go_wp2_with fail
  go_ret2
  exact ⟨rfl, HB.out⟩

/-- without a dot at its beginning -/
def undot (l : List UInt8) : List UInt8 := if l.head? = some 46 then l.tail else l
set_option maxHeartbeats 1000000 in
set_option maxRecDepth 20000 in
theorem undot_any (S : ByteArray) (w : World) (hs : S.size ≤ 100000) :
    Calls Tryd.prog 49 #[.string S, .string ⟨#[46]⟩] w fun e w' => e = .returned (.string ⟨(undot S.data.toList).toArray⟩) ∧ Below w.heap.size w w' := by
  have hls : S.data.toList.length = S.size := by simp
  by_cases h0 : S.size = 0
  · have hu : Hid (S = ⟨(undot S.data.toList).toArray⟩) := by
      unfold Hid
      have : S.data.toList = [] := List.eq_nil_of_length_eq_zero (by omega)
      rw [this]; show S = ⟨#[]⟩
      rw [← Lib.mk_data S, this]
    have d : decide ((1 : Int) ≤ S.size) = false := decide_eq_false (by omega)
    clear hls h0
    go_enter Tryd.func49, Tryd.ntmps49
    go_wp2
    go_ret
    exact ⟨by rw [← hu.out]; rfl, Below.refl _ _⟩
  · have d : decide ((1 : Int) ≤ S.size) = true := decide_eq_true (by omega)
    have h1 : 1 ≤ S.size := by omega
    obtain ⟨c, t, hct⟩ : ∃ c t, S.data.toList = c :: t := by
      cases hS : S.data.toList with
      | nil => rw [hS] at hls; simp at hls; omega
      | cons c t => exact ⟨c, t, rfl⟩
    have he : S.extract 0 1 = ⟨#[c]⟩ := by rw [extract_first, hct]; rfl
    have he1 : S.extract 1 S.size = ⟨t.toArray⟩ := by rw [ext_drop, hct]; rfl
    by_cases hc : c = 46
    · subst hc
      have hu : Hid (undot S.data.toList = t) := by unfold Hid undot; rw [hct]; rfl
      clear hls h0 hct
      go_enter Tryd.func49, Tryd.ntmps49
      go_wp2
      go_ret
      exact ⟨by rw [hu.out]; simp [he1], Below.refl _ _⟩
    · have hu : Hid (S = ⟨(undot S.data.toList).toArray⟩) := by
        unfold Hid undot; rw [hct]
        rw [if_neg (by simpa using hc), ← hct]
      have hne : (c == 46) = false := by rw [beq_eq_false_iff_ne]; exact hc
      clear hls h0 hct he1
      go_enter Tryd.func49, Tryd.ntmps49
      go_wp2
      go_ret
      exact ⟨by rw [← hu.out]; rfl, Below.refl _ _⟩
end Go.Proofs.YtdhepaeephmhiaaDoor
