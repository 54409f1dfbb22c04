/-
  DERIVED. 'slices.Clone' of mails and of entries: the walks.
-/
import Derived.Test.YtaeejmggmgejcaaDoorBoxMem
import Derived.Lib.SliceRun
namespace Go.Proofs.YtaeejmggmgejcaaDoor
open Go.RowKit

set_option maxHeartbeats 2000000 in
set_option maxRecDepth 20000 in
theorem cloneM_any (v : Value) (l : List Mail) (F : Dom) (w : World) (h : SAt cMail w F v l) (hl : l.length ≤ 200000) :
    Calls Tryd.prog 21 #[v] w fun e w' => (∃ v', e = .returned v' ∧ w'.ownsRow w.heap.size 54 3 v' l.length (l.flatMap mailC)) ∧ Below w.heap.size w w' := by
  obtain ⟨a, cap, rfl, hcap⟩ := h.form
  have q22 : ∀ (w : World) (a : Option Addr) (n c n' c' : Nat), (binOp .eql 50 (.slice a n c) (.slice none n' c')).run Tryd.prog w = .ok (.bool a.isNone) w := fun w a n c n' c' => Lib.run_eql_slice_nil w _ _ a n c n' c' Tryd.underlying50
  cases a with
  | none =>
    have hl0 : l = [] := by
      cases l with
      | nil => rfl
      | cons c l =>
        obtain ⟨_, _, _, h, _⟩ := h.get 0 (Nat.succ_pos _)
        cases h
    subst hl0
    go_enter Tryd.func21, Tryd.ntmps21
    go_wp2_with fail
    go_ret
    exact ⟨⟨_, rfl, World.ownsRow_nil _ _ _ _⟩, Below.refl _ _⟩
  | some x =>
    obtain ⟨i0, hi, hz0, hz1, hz2⟩ := info_parts infoMail
    have HI := Lib.hid hi; have HZ0 := Lib.hid hz0; have HZ1 := Lib.hid hz1; have HZ2 := Lib.hid hz2
    clear hi hz0 hz1 hz2
    have hA := ba (Below.refl w.heap.size w) (.cells #[] 54)
    have A : Hid (∀ j u, (l.flatMap mailC)[j]? = some u → (w.alloc (.cells #[] 54)).cell? (x.add j) = some u) := (h.down hA).cells
    have hlen : (l.flatMap mailC).length = l.length * 3 := by
      have := hcells_length (k := 3) (ps := l.map fun x => (x, mailC x)) (fun p hp => by obtain ⟨x, _, rfl⟩ := List.mem_map.1 hp; rfl)
      unfold hcells at this
      rwa [List.flatMap_map, List.length_map] at this
    have HL := Lib.hid hlen
    clear hlen hA h
    go_enter Tryd.func21, Tryd.ntmps21
    go_wp2_with (at_builtin; refine wpList_append_own _ rfl _ _ 50 rfl w.heap.size 54 i0 (.agg #[.int .i64 0, .int .i64 0, .string ⟨#[]⟩]) 3 32 Tryd.underlying50 HI.out HZ0.out HZ1.out HZ2.out rfl (by decide) _ _ _ rfl (World.ownsRow_made w #[] 0 (Nat.le_refl _) (Nat.zero_le _) rfl) x l.length cap (l.flatMap mailC) rfl ?qc1 A.out ?qc3 ?qc4 ?qc5 ?qc6 ?_)
    case qc1 => exact HL.out
    case qc3 => intro u hu; obtain ⟨y, _, hy⟩ := List.mem_flatMap.1 hu; simp [mailC] at hy; rcases hy with rfl | rfl | rfl <;> rfl
    case qc4 => unfold maxLen; omega
    case qc5 => omega
    case qc6 => simp
    intro v' w1 hown hgrow _
    clear A
    go_wp2_with fail
    go_ret
    refine ⟨⟨v', rfl, by simpa using hown⟩, ?_⟩
    exact ((Below.refl _ w).alloc (Nat.le_refl _) _).grown hgrow (by simp) (by intro k hk; simp [Value.ownBlock] at hk; omega)

set_option maxHeartbeats 2000000 in
set_option maxRecDepth 20000 in
theorem cloneE_any (v : Value) (l : List Ent) (F : Dom) (w : World) (h : SAt cEnt w F v l) (hl : l.length ≤ 200000) :
    Calls Tryd.prog 20 #[v] w fun e w' => (∃ v', e = .returned v' ∧ w'.ownsRow w.heap.size 44 6 v' l.length (l.flatMap entC)) ∧ Below w.heap.size w w' := by
  obtain ⟨a, cap, rfl, hcap⟩ := h.form
  have q22 : ∀ (w : World) (a : Option Addr) (n c n' c' : Nat), (binOp .eql 27 (.slice a n c) (.slice none n' c')).run Tryd.prog w = .ok (.bool a.isNone) w := fun w a n c n' c' => Lib.run_eql_slice_nil w _ _ a n c n' c' Tryd.underlying27
  cases a with
  | none =>
    have hl0 : l = [] := by
      cases l with
      | nil => rfl
      | cons c l =>
        obtain ⟨_, _, _, h, _⟩ := h.get 0 (Nat.succ_pos _)
        cases h
    subst hl0
    go_enter Tryd.func20, Tryd.ntmps20
    go_wp2_with fail
    go_ret
    exact ⟨⟨_, rfl, World.ownsRow_nil _ _ _ _⟩, Below.refl _ _⟩
  | some x =>
    obtain ⟨i0, hi, hz0, hz1, hz2⟩ := info_parts infoEnt2
    have HI := Lib.hid hi; have HZ0 := Lib.hid hz0; have HZ1 := Lib.hid hz1; have HZ2 := Lib.hid hz2
    clear hi hz0 hz1 hz2
    have hA := ba (Below.refl w.heap.size w) (.cells #[] 44)
    have A : Hid (∀ j u, (l.flatMap entC)[j]? = some u → (w.alloc (.cells #[] 44)).cell? (x.add j) = some u) := (h.down hA).cells
    have hlen : (l.flatMap entC).length = l.length * 6 := by
      have := hcells_length (k := 6) (ps := l.map fun x => (x, entC x)) (fun p hp => by obtain ⟨x, _, rfl⟩ := List.mem_map.1 hp; rfl)
      unfold hcells at this
      rwa [List.flatMap_map, List.length_map] at this
    have HL := Lib.hid hlen
    clear hlen hA h
    go_enter Tryd.func20, Tryd.ntmps20
    go_wp2_with (at_builtin; refine wpList_append_own _ rfl _ _ 27 rfl w.heap.size 44 i0 (.agg #[.int .i64 0, .string ⟨#[]⟩, .int .i64 0, .int .i64 0, .string ⟨#[]⟩, .string ⟨#[]⟩]) 6 72 Tryd.underlying27 HI.out HZ0.out HZ1.out HZ2.out rfl (by decide) _ _ _ rfl (World.ownsRow_made w #[] 0 (Nat.le_refl _) (Nat.zero_le _) rfl) x l.length cap (l.flatMap entC) rfl ?qc1 A.out ?qc3 ?qc4 ?qc5 ?qc6 ?_)
    case qc1 => exact HL.out
    case qc3 => intro u hu; obtain ⟨y, _, hy⟩ := List.mem_flatMap.1 hu; simp [entC] at hy; rcases hy with rfl | rfl | rfl | rfl | rfl | rfl <;> rfl
    case qc4 => unfold maxLen; omega
    case qc5 => omega
    case qc6 => simp
    intro v' w1 hown hgrow _
    clear A
    go_wp2_with fail
    go_ret
    refine ⟨⟨v', rfl, by simpa using hown⟩, ?_⟩
    exact ((Below.refl _ w).alloc (Nat.le_refl _) _).grown hgrow (by simp) (by intro k hk; simp [Value.ownBlock] at hk; omega)
end Go.Proofs.YtaeejmggmgejcaaDoor
