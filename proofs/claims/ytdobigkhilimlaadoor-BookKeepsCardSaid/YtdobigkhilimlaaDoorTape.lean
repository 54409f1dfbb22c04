/-
  DERIVED. 'slices.Clone' of bytes, and 'open' of book: the walks. Tapes as values.
-/
import Derived.Test.YtdobigkhilimlaaDoorWide
import Derived.Test.YtdobigkhilimlaaDoorHas
import Derived.Test.YtdobigkhilimlaaDoorListForm
import Derived.Lib.SliceRun
namespace Go.Proofs.YtdobigkhilimlaaDoor
open Go.RowKit

theorem Bytes.down {w w' : World} {v : Value} {l : List UInt8} (h : Bytes w v l) (hb : Below w.heap.size w w') : Bytes w' v l := by
  obtain ⟨a, cap, hv, hc, hat, hap⟩ := h
  refine ⟨a, cap, hv, hc, fun i c hi => ?_, fun x hx => Nat.lt_of_lt_of_le (hap x hx) hb.size⟩
  obtain ⟨g, off, ha, hg, hx⟩ := hat i c hi
  exact ⟨g, off, ha, Nat.lt_of_lt_of_le hg hb.size, moved hx hb (Nat.le_refl _)⟩
theorem OwnB.bytes {w : World} {base e : Nat} {v : Value} {l : List UInt8} (h : OwnB w base e v l) : Bytes w v l := by
  have h0 := h
  rcases h.2 with ⟨rfl, hl⟩ | ⟨g, cap, cur, rfl, hb, hg, hc, _⟩
  · obtain rfl : l = [] := List.eq_nil_of_length_eq_zero hl
    exact bytes_nil w
  · refine ⟨_, cap, rfl, hc, fun i c hi => ⟨g, 0, rfl, (Array.getElem?_eq_some_iff.1 hg).1, ?_⟩, fun x hx => by obtain rfl := Option.some.inj hx; exact (Array.getElem?_eq_some_iff.1 hg).1⟩
    obtain ⟨hl, rfl⟩ := List.getElem?_eq_some_iff.1 hi
    have := World.ownsRow.cells h0 (g := g) rfl i _ (bcells_get l i hl)
    rwa [Addr.add_lit] at this
/-- 'v is the tape of d, s of it synced' -/
def TapeAt (w : World) (v : Value) (d : List UInt8) (s : Int) : Prop := ∃ u, v = .agg #[u, .int .i64 s] ∧ Bytes w u d
theorem TapeAt.down {w w' : World} {v : Value} {l : List UInt8} {s : Int} (h : TapeAt w v l s) (hb : Below w.heap.size w w') : TapeAt w' v l s := by
  obtain ⟨u, hv, hat⟩ := h
  exact ⟨u, hv, hat.down hb⟩
/-- a tape that may be -/
def MayT (d : List UInt8) (s : Int) : Prop := 0 ≤ s ∧ s ≤ d.length ∧ d.length ≤ 100000

set_option maxHeartbeats 2000000 in
set_option maxRecDepth 20000 in
theorem clone_any (v : Value) (l : List UInt8) (w : World) (h : Bytes w v l) (hl : l.length ≤ 200000) :
    Calls Tryd.prog 33 #[v] w fun e w' => (∃ v', e = .returned v' ∧ OwnB w' w.heap.size 5 v' l) ∧ Below w.heap.size w w' := by
  obtain ⟨a, cap, rfl, hcap, hat, _⟩ := h
  have q22 : ∀ (w : World) (a : Option Addr) (n c n' c' : Nat), (binOp .eql 27 (.slice a n c) (.slice none n' c')).run Tryd.prog w = .ok (.bool a.isNone) w := fun w a n c n' c' => Lib.run_eql_slice_nil w _ _ a n c n' c' Tryd.underlying27
  cases a with
  | none =>
    have hl0 : l = [] := by
      cases l with
      | nil => rfl
      | cons c l =>
        obtain ⟨g, off, h, _⟩ := hat 0 c rfl
        cases h
    subst hl0
    go_enter Tryd.func33, Tryd.ntmps33
    go_wp2_with fail
    go_ret
    exact ⟨⟨_, rfl, World.ownsRow_nil _ _ _ _⟩, Below.refl _ _⟩
  | some x =>
    obtain ⟨i0, hi, hz0, hz1, hz2⟩ := info_parts infoU8
    have HI := Lib.hid hi; have HZ0 := Lib.hid hz0; have HZ1 := Lib.hid hz1; have HZ2 := Lib.hid hz2
    clear hi hz0 hz1 hz2
    have A : Hid (∀ j u, (bcells l)[j]? = some u → (w.alloc (.cells #[] 5)).cell? (x.add j) = some u) := by
      intro j u hj
      have hjl : j < l.length := by have := (List.getElem?_eq_some_iff.1 hj).1; rwa [bcells_length] at this
      rw [bcells_get l j hjl] at hj
      obtain rfl := Option.some.inj hj
      obtain ⟨g, off, hx, hg, hc⟩ := hat j _ (List.getElem?_eq_getElem hjl)
      obtain rfl := Option.some.inj hx
      rw [Addr.add_lit]
      exact Lib.cell?_alloc_some _ hc
    clear hat
    go_enter Tryd.func33, Tryd.ntmps33
    go_wp2_with (at_builtin; refine wpList_append_own _ rfl _ _ 27 rfl w.heap.size 5 i0 (.int .u8 0) 1 1 Tryd.underlying27 HI.out HZ0.out HZ1.out HZ2.out rfl (by decide) _ _ _ rfl (World.ownsRow_made w #[] 0 (Nat.le_refl _) (Nat.zero_le _) rfl) x l.length cap (bcells l) rfl ?qc1 A.out ?qc3 ?qc4 ?qc5 ?qc6 ?_)
    case qc1 => rw [bcells_length, Nat.mul_one]
    case qc3 => intro u hu; exact bcells_one l u hu
    case qc4 => unfold maxLen; omega
    case qc5 => omega
    case qc6 => simp
    intro v' w1 hown hgrow _
    clear A
    go_wp2_with fail
    go_ret
    refine ⟨⟨v', rfl, by simpa [OwnB] using hown⟩, ?_⟩
    exact ((Below.refl _ w).alloc (Nat.le_refl _) _).grown hgrow (by simp) (by intro k hk; simp [Value.ownBlock] at hk; omega)

theorem open_end {R : Nat} {s : Int} {ok : Bool} {v : Value} {a : Act} {W w : World} {Q : Value → World → Prop} (ht : a.tmps.getD 2 undef = .pointer (some ⟨R, 0, none⟩)) (ht3 : a.tmps.getD 3 undef = .bool ok) (hd : a.defers = [])
    (h : Has W R [v, .int .i64 s]) (he : Q v W) (hb : Below w.heap.size w W) :
    bodyPost Tryd.prog Tryd.f28 (fun e w' => (∃ v, e = .returned (.tuple #[.agg #[v, .int .i64 s], .bool ok]) ∧ Q v w') ∧ Below w.heap.size w w') .ret a W := by
  obtain ⟨c0, c1, _, _⟩ := h.two
  refine bodyPost_ret (v := .tuple #[.agg #[v, .int .i64 s], .bool ok]) ?_ hd ⟨⟨_, rfl, he⟩, hb⟩
  have ht' : a.tmps[2]?.getD undef = .pointer (some ⟨R, 0, none⟩) := by simpa using ht
  have ht3' : a.tmps[3]?.getD undef = .bool ok := by simpa using ht3
  simp [results, Tryd.results28, go_sem, ht', ht3', c0, c1]

theorem open_end0 {R : Nat} {a : Act} {W w : World} (ht : a.tmps.getD 2 undef = .pointer (some ⟨R, 0, none⟩)) (ht3 : a.tmps.getD 3 undef = .bool false) (hd : a.defers = [])
    (h : Has W R [.slice none 0 0, .int .i64 0]) (hb : Below w.heap.size w W) :
    bodyPost Tryd.prog Tryd.f28 (fun e w' => e = .returned (.tuple #[.agg #[.slice none 0 0, .int .i64 0], .bool false]) ∧ Below w.heap.size w w') .ret a W := by
  obtain ⟨c0, c1, _, _⟩ := h.two
  refine bodyPost_ret (v := .tuple #[.agg #[.slice none 0 0, .int .i64 0], .bool false]) ?_ hd ⟨rfl, hb⟩
  have ht' : a.tmps[2]?.getD undef = .pointer (some ⟨R, 0, none⟩) := by simpa using ht
  have ht3' : a.tmps[3]?.getD undef = .bool false := by simpa using ht3
  simp [results, Tryd.results28, go_sem, ht', ht3', c0, c1]

set_option maxHeartbeats 2000000 in
set_option maxRecDepth 20000 in
theorem open_may (v : Value) (l : List UInt8) (s : Int) (w : World) (h : TapeAt w v l s) (hm : MayT l s) :
    Calls Tryd.prog 28 #[v] w fun e w' => (∃ v, e = .returned (.tuple #[.agg #[v, .int .i64 s], .bool true]) ∧ OwnB w' w.heap.size 5 v l) ∧ Below w.heap.size w w' := by
  obtain ⟨u, rfl, hu⟩ := h
  obtain ⟨hs0, hsl, hlen⟩ := hm
  have hC : Hid (∀ w', Below w.heap.size w w' → Calls Tryd.prog 33 #[u] w' fun e w'' => (∃ v', e = .returned v' ∧ OwnB w'' w'.heap.size 5 v' l) ∧ Below w'.heap.size w' w'') := fun w' hb => clone_any u l w' (hu.down hb) (by omega)
  obtain ⟨a, cap, rfl, hcap, _⟩ := hu
  have hb1 := ba (ba (Below.refl _ w) (.cells #[.slice a l.length cap, .int .i64 s] 42)) (.cells #[.slice none 0 0, .int .i64 0] 42)
  have h1 := (Has.alloc w [.slice a l.length cap, .int .i64 s] 42).down (ba (Below.refl _ _) (.cells #[.slice none 0 0, .int .i64 0] 42))
  have h2 := Has.alloc (w.alloc (.cells #[.slice a l.length cap, .int .i64 s] 42)) [.slice none 0 0, .int .i64 0] 42
  simp only [World.size_alloc] at h2
  have d1 : decide (s < 0) = false := decide_eq_false (by omega)
  have d2 : decide ((l.length : Int) < s) = false := decide_eq_false (by omega)
  have HB1 := Lib.hid hb1; have H1 := Lib.hid h1; have H2 := Lib.hid h2
  clear hb1 h1 h2
  go_enter Tryd.func28, Tryd.ntmps28
  go_wp2_with fail
  go_region_with (go_at_call 33; refine (hC.out _ (Below.drew HB1.out)).mono ?_; rintro e w1 ⟨⟨v', rfl, ho⟩, hb1⟩; obtain ⟨G, cp, rfl⟩ := SliceOf.own ho; have k1 := (H1.out.down (Below.drew (Below.refl _ _))).down hb1; have k2 := (H2.out.down (Below.drew (Below.refl _ _))).down hb1; obtain ⟨c0, c1, f0, f1⟩ := k1.two; obtain ⟨e0, e1, g0, g1⟩ := k2.two)
  all_goals
    go_wp2_with fail
    have k3 := (k2.set' (i := 0) (.slice G l.length cp) (by simp)).set' (i := 1) (.int .i64 s) (by simp)
    have hb2 := ((HB1.out.drew.trans (hb1.mono (by have := HB1.out.size; simpa using this))).setCell (p := ⟨w.heap.size + 1, 0, none⟩) (by show w.heap.size ≤ w.heap.size + 1; omega) (.slice G l.length cp)).setCell (p := ⟨w.heap.size + 1, 1, none⟩) (by show w.heap.size ≤ w.heap.size + 1; omega) (.int .i64 s)
    refine open_end (R := w.heap.size + 1) rfl rfl rfl k3 ?_ hb2
    exact row_base (by simp; omega) (row_else (row_else ho (by simp) 0 _) (by simp) 1 _)

set_option maxHeartbeats 2000000 in
set_option maxRecDepth 20000 in
theorem open_not (v : Value) (l : List UInt8) (s : Int) (w : World) (h : TapeAt w v l s) (hl : l.length ≤ 200000) (hs : -9223372036854775808 ≤ s ∧ s ≤ 9223372036854775807) (hm : ¬ MayT l s) :
    Calls Tryd.prog 28 #[v] w fun e w' => e = .returned (.tuple #[.agg #[.slice none 0 0, .int .i64 0], .bool false]) ∧ Below w.heap.size w w' := by
  obtain ⟨u, rfl, hu⟩ := h
  obtain ⟨a, cap, rfl, hcap, _⟩ := hu
  have hb1 := ba (ba (Below.refl _ w) (.cells #[.slice a l.length cap, .int .i64 s] 42)) (.cells #[.slice none 0 0, .int .i64 0] 42)
  have h2 := Has.alloc (w.alloc (.cells #[.slice a l.length cap, .int .i64 s] 42)) [.slice none 0 0, .int .i64 0] 42
  simp only [World.size_alloc] at h2
  have HB1 := Lib.hid hb1; have H2 := Lib.hid h2
  clear hb1 h2
  by_cases d1 : s < 0
  · go_enter Tryd.func28, Tryd.ntmps28
    go_wp2_with fail
    exact open_end0 (R := w.heap.size + 1) rfl rfl rfl H2.out HB1.out
  · by_cases d2 : (l.length : Int) < s
    · go_enter Tryd.func28, Tryd.ntmps28
      go_wp2_with fail
      exact open_end0 (R := w.heap.size + 1) rfl rfl rfl H2.out HB1.out
    · have d3 : 100000 < l.length := by unfold MayT at hm; omega
      have d2' : decide ((l.length : Int) < s) = false := decide_eq_false d2
      have d1' : decide (s < 0) = false := decide_eq_false d1
      go_enter Tryd.func28, Tryd.ntmps28
      go_wp2_with fail
      exact open_end0 (R := w.heap.size + 1) rfl rfl rfl H2.out HB1.out
end Go.Proofs.YtdobigkhilimlaaDoor
