/-
  DERIVED. 'Sync', 'Crash', 'Append' of book: the walks.
-/
import Derived.Test.YtdobigkhilimlaaDoorTape
import Derived.Test.YtdobigkhilimlaaDoorEncode
import Derived.Test.YtdobigkhilimlaaDoorDecPlain
namespace Go.Proofs.YtdobigkhilimlaaDoor
open Go.RowKit

/-- what Sync, Append and Crash answer: a tape in memory of its own -/
def AppPost (w : World) (d : List UInt8) (s : Int) (e : Ending) (w' : World) : Prop := (∃ u, e = .returned (.tuple #[.agg #[u, .int .i64 s], .int .i64 0]) ∧ Bytes w' u d ∧ ∀ k, u.ownBlock = some k → w.heap.size ≤ k) ∧ Below w.heap.size w w'
theorem sync_end {R : Nat} {s : Int} {u : Value} {d : List UInt8} {a : Act} {W w : World} (ht : a.tmps.getD 2 undef = .pointer (some ⟨R, 0, none⟩)) (ht3 : a.tmps.getD 3 undef = .int .i64 0) (hd : a.defers = [])
    (h : Has W R [u, .int .i64 s]) (he : Bytes W u d) (hf : ∀ k, u.ownBlock = some k → w.heap.size ≤ k) (hb : Below w.heap.size w W) :
    bodyPost Tryd.prog Tryd.f22 (AppPost w d s) .ret a W := by
  obtain ⟨c0, c1, _, _⟩ := h.two
  refine bodyPost_ret (v := .tuple #[.agg #[u, .int .i64 s], .int .i64 0]) ?_ hd ⟨⟨u, rfl, he, hf⟩, hb⟩
  have ht' : a.tmps[2]?.getD undef = .pointer (some ⟨R, 0, none⟩) := by simpa using ht
  have ht3' : a.tmps[3]?.getD undef = .int .i64 0 := by simpa using ht3
  simp [results, Tryd.results22, go_sem, ht', ht3', c0, c1]
theorem crash_end {R : Nat} {s : Int} {u : Value} {d : List UInt8} {a : Act} {W w : World} (ht : a.tmps.getD 4 undef = .pointer (some ⟨R, 0, none⟩)) (ht3 : a.tmps.getD 5 undef = .int .i64 0) (hd : a.defers = [])
    (h : Has W R [u, .int .i64 s]) (he : Bytes W u d) (hf : ∀ k, u.ownBlock = some k → w.heap.size ≤ k) (hb : Below w.heap.size w W) :
    bodyPost Tryd.prog Tryd.f20 (AppPost w d s) .ret a W := by
  obtain ⟨c0, c1, _, _⟩ := h.two
  refine bodyPost_ret (v := .tuple #[.agg #[u, .int .i64 s], .int .i64 0]) ?_ hd ⟨⟨u, rfl, he, hf⟩, hb⟩
  have ht' : a.tmps[4]?.getD undef = .pointer (some ⟨R, 0, none⟩) := by simpa using ht
  have ht3' : a.tmps[5]?.getD undef = .int .i64 0 := by simpa using ht3
  simp [results, Tryd.results20, go_sem, ht', ht3', c0, c1]
theorem crash_end6 {R : Nat} {a : Act} {W w : World} (ht : a.tmps.getD 4 undef = .pointer (some ⟨R, 0, none⟩)) (ht3 : a.tmps.getD 5 undef = .int .i64 6) (hd : a.defers = [])
    (h : Has W R [.slice none 0 0, .int .i64 0]) (hb : Below w.heap.size w W) :
    bodyPost Tryd.prog Tryd.f20 (fun e w' => e = .returned (.tuple #[.agg #[.slice none 0 0, .int .i64 0], .int .i64 6]) ∧ Below w.heap.size w w') .ret a W := by
  obtain ⟨c0, c1, _, _⟩ := h.two
  refine bodyPost_ret (v := .tuple #[.agg #[.slice none 0 0, .int .i64 0], .int .i64 6]) ?_ hd ⟨rfl, hb⟩
  have ht' : a.tmps[4]?.getD undef = .pointer (some ⟨R, 0, none⟩) := by simpa using ht
  have ht3' : a.tmps[5]?.getD undef = .int .i64 6 := by simpa using ht3
  simp [results, Tryd.results20, go_sem, ht', ht3', c0, c1]
theorem append_end {R : Nat} {s : Int} {u : Value} {d : List UInt8} {a : Act} {W w : World} (ht : a.tmps.getD 4 undef = .pointer (some ⟨R, 0, none⟩)) (ht3 : a.tmps.getD 5 undef = .int .i64 0) (hd : a.defers = [])
    (h : Has W R [u, .int .i64 s]) (he : Bytes W u d) (hf : ∀ k, u.ownBlock = some k → w.heap.size ≤ k) (hb : Below w.heap.size w W) :
    bodyPost Tryd.prog Tryd.f21 (AppPost w d s) .ret a W := by
  obtain ⟨c0, c1, _, _⟩ := h.two
  refine bodyPost_ret (v := .tuple #[.agg #[u, .int .i64 s], .int .i64 0]) ?_ hd ⟨⟨u, rfl, he, hf⟩, hb⟩
  have ht' : a.tmps[4]?.getD undef = .pointer (some ⟨R, 0, none⟩) := by simpa using ht
  have ht3' : a.tmps[5]?.getD undef = .int .i64 0 := by simpa using ht3
  simp [results, Tryd.results21, go_sem, ht', ht3', c0, c1]
/-- the opening, as the three calls meet it -/
def Opens (l : List UInt8) (s : Int) (tv : Value) (w : World) : Prop := ∀ w', Below w.heap.size w w' → Calls Tryd.prog 28 #[tv] w' fun e w'' => (∃ v, e = .returned (.tuple #[.agg #[v, .int .i64 s], .bool true]) ∧ OwnB w'' w'.heap.size 5 v l) ∧ Below w'.heap.size w' w''
theorem opens_of {l : List UInt8} {s : Int} {tv : Value} {w : World} (h : TapeAt w tv l s) (hm : MayT l s) : Opens l s tv w := fun w' hb => open_may tv l s w' (h.down hb) hm

set_option maxHeartbeats 2000000 in
set_option maxRecDepth 20000 in
theorem sync_any (tv : Value) (l : List UInt8) (s : Int) (w : World) (h : TapeAt w tv l s) (hm : MayT l s) :
    Calls Tryd.prog 22 #[tv] w (AppPost w l l.length) := by
  have hO : Hid (Opens l s tv w) := opens_of h hm
  have hl := hm.2.2
  obtain ⟨u, rfl, a, cap, rfl, hcap, _⟩ := h
  have HB1 := Lib.hid (ba (ba (Below.refl _ w) (.cells #[.slice a l.length cap, .int .i64 s] 42)) (.cells #[.slice none 0 0, .int .i64 0] 42))
  have h2 := Has.alloc (w.alloc (.cells #[.slice a l.length cap, .int .i64 s] 42)) [.slice none 0 0, .int .i64 0] 42
  simp only [World.size_alloc] at h2
  have H2 := Lib.hid h2
  clear h2 hm
  go_enter Tryd.func22, Tryd.ntmps22
  go_wp2_with fail
  refine (hO.out _ HB1.out).mono ?_
  rintro e w1 ⟨⟨v, rfl, ho⟩, hb1⟩
  obtain ⟨G, cp, rfl⟩ := SliceOf.own ho
  obtain ⟨c0, c1, f0, f1⟩ := (H2.out.down hb1).two
  have HO := Lib.hid ho; have HB2 := Lib.hid hb1
  have hz := (H2.out.down hb1).2.2
  clear ho hb1
  go_wp2_with fail
  exact sync_end (R := w.heap.size + 1) rfl rfl rfl ((((H2.out.down HB2.out).set' (i := 0) (.slice G l.length cp) (by simp)).set' (i := 1) (.int .i64 l.length) (by simp)).down (ba (Below.refl _ _) _))
    ((OwnB.bytes (row_else (row_else HO.out (by simp) 0 _) (by simp) 1 _)).down (ba (Below.refl _ _) _)) (fun k hk => by have := (HO.out.lt k hk).1; simp at this; omega) (ba (((bt HB1.out HB2.out).setCell (p := ⟨w.heap.size + 1, 0, none⟩) (by show w.heap.size ≤ w.heap.size + 1; omega) _).setCell (p := ⟨w.heap.size + 1, 1, none⟩) (by show w.heap.size ≤ w.heap.size + 1; omega) _) _)

theorem min_cut (s keep n len : Nat) (hs : s ≤ len) (hn : n = s + min keep (len - s)) : (s : Int) + min (keep : Int) ((len : Int) - s) = n := by
  rcases Nat.le_total keep (len - s) with h | h
  · rw [hn, Nat.min_eq_left h, Int.min_eq_left (by omega)]; omega
  · rw [hn, Nat.min_eq_right h, Int.min_eq_right (by omega)]; omega
/-- the first bytes of what is owned -/
theorem bytes_cut {w : World} {l : List UInt8} {G : Option Addr} {cp : Nat} (n : Nat) (h : Bytes w (.slice G l.length cp) l) (hn : n ≤ l.length) : Bytes w (.slice G n n) (l.take n) := by
  obtain ⟨a, cap, hv, hc, hat, hap⟩ := h
  cases hv
  exact ⟨G, n, by rw [List.length_take, Nat.min_eq_left hn], by rw [List.length_take]; omega, bytesAt_take hat n, hap⟩

set_option maxHeartbeats 2000000 in
set_option maxRecDepth 20000 in
theorem crash_any (tv : Value) (l : List UInt8) (s keep : Nat) (w : World) (h : TapeAt w tv l s) (hm : MayT l s) (hk : keep ≤ 100000000) :
    Calls Tryd.prog 20 #[tv, .int .i64 keep] w (AppPost w (l.take (s + min keep (l.length - s))) (s + min keep (l.length - s) : Nat)) := by
  have hO : Hid (Opens l s tv w) := opens_of h hm
  have hl := hm.2.2
  have hs := hm.2.1
  obtain ⟨u, rfl, a, cap, rfl, hcap, _⟩ := h
  have HB1 := Lib.hid (ba (ba (Below.refl _ w) (.cells #[.slice a l.length cap, .int .i64 s] 42)) (.cells #[.slice none 0 0, .int .i64 0] 42))
  have h2 := Has.alloc (w.alloc (.cells #[.slice a l.length cap, .int .i64 s] 42)) [.slice none 0 0, .int .i64 0] 42
  simp only [World.size_alloc] at h2
  have H2 := Lib.hid h2
  clear h2 hm
  obtain ⟨n, hn⟩ : ∃ n, n = s + min keep (l.length - s) := ⟨_, rfl⟩
  have hnl : n ≤ l.length := by omega
  rw [← hn]
  have hNN := Lib.hid hn
  clear hn
  have hcut : ∀ (w1 : World) (G : Option Addr) (cp : Nat), Bytes w1 (.slice G l.length cp) l → Bytes w1 (.slice G n n) (l.take n) := fun w1 G cp h => bytes_cut n h hnl
  have HCUT := Lib.hid hcut
  clear hcut
  have hd : decide ((keep : Int) < 0) = false := decide_eq_false (by omega)
  go_enter Tryd.func20, Tryd.ntmps20
  go_wp2_with fail
  refine (hO.out _ HB1.out).mono ?_
  rintro e w1 ⟨⟨v, rfl, ho⟩, hb1⟩
  obtain ⟨G, cp, rfl⟩ := SliceOf.own ho
  have hcap2 := ho.2
  obtain ⟨c0, c1, f0, f1⟩ := (H2.out.down hb1).two
  have HO := Lib.hid ho; have HB2 := Lib.hid hb1
  have hz := (H2.out.down hb1).2.2
  have hcp : l.length ≤ cp := by
    rcases hcap2 with ⟨h, h0⟩ | ⟨g, cap, cur, h, _, _, h2, _⟩
    · omega
    · cases h; exact h2
  have hN := Lib.hid (min_cut s keep n l.length (by omega) hNN.out)
  clear ho hb1 hcap2
  go_wp2_with fail
  simp only [hN.out, Int.toNat_natCast]
  exact crash_end (R := w.heap.size + 1) rfl rfl rfl ((((H2.out.down HB2.out).set' (i := 0) (.slice G n n) (by simp)).set' (i := 1) (.int .i64 n) (by simp)).down (ba (Below.refl _ _) _))
    ((HCUT.out _ _ _ (OwnB.bytes (row_else (row_else HO.out (by simp) 0 _) (by simp) 1 _))).down (ba (Below.refl _ _) _)) (fun k hk => by cases G with | none => cases hk | some x => (have := (HO.out.lt k hk).1; simp at this; omega)) (ba (((bt HB1.out HB2.out).setCell (p := ⟨w.heap.size + 1, 0, none⟩) (by show w.heap.size ≤ w.heap.size + 1; omega) _).setCell (p := ⟨w.heap.size + 1, 1, none⟩) (by show w.heap.size ≤ w.heap.size + 1; omega) _) _)

set_option maxHeartbeats 2000000 in
set_option maxRecDepth 20000 in
theorem crash_neg (tv : Value) (l : List UInt8) (s : Int) (w : World) (h : TapeAt w tv l s) (hm : MayT l s) :
    Calls Tryd.prog 20 #[tv, .int .i64 (-1)] w fun e w' => e = .returned (.tuple #[.agg #[.slice none 0 0, .int .i64 0], .int .i64 6]) ∧ Below w.heap.size w w' := by
  have hO : Hid (Opens l s tv w) := opens_of h hm
  have hl := hm.2.2
  obtain ⟨u, rfl, a, cap, rfl, hcap, _⟩ := h
  have HB1 := Lib.hid (ba (ba (Below.refl _ w) (.cells #[.slice a l.length cap, .int .i64 s] 42)) (.cells #[.slice none 0 0, .int .i64 0] 42))
  have h2 := Has.alloc (w.alloc (.cells #[.slice a l.length cap, .int .i64 s] 42)) [.slice none 0 0, .int .i64 0] 42
  simp only [World.size_alloc] at h2
  have H2 := Lib.hid h2
  clear h2 hm
  go_enter Tryd.func20, Tryd.ntmps20
  go_wp2_with fail
  refine (hO.out _ HB1.out).mono ?_
  rintro e w1 ⟨⟨v, rfl, ho⟩, hb1⟩
  obtain ⟨G, cp, rfl⟩ := SliceOf.own ho
  obtain ⟨c0, c1, f0, f1⟩ := (H2.out.down hb1).two
  have HB2 := Lib.hid hb1
  have hz := (H2.out.down hb1).2.2
  clear ho hb1
  go_wp2_with fail
  exact crash_end6 (R := w.heap.size + 1) rfl rfl rfl ((((H2.out.down HB2.out).set' (i := 0) (.slice none 0 0) (by simp)).set' (i := 1) (.int .i64 0) (by simp)).down (ba (Below.refl _ _) _))
    (ba (((bt HB1.out HB2.out).setCell (p := ⟨w.heap.size + 1, 0, none⟩) (by show w.heap.size ≤ w.heap.size + 1; omega) _).setCell (p := ⟨w.heap.size + 1, 1, none⟩) (by show w.heap.size ≤ w.heap.size + 1; omega) _) _)

set_option maxHeartbeats 4000000 in
set_option maxRecDepth 20000 in
theorem append_any (tv bv : Value) (l : List UInt8) (s : Int) (user : Nat) (xs : List Ent) (m : Int) (w : World) (h : TapeAt w tv l s) (hm : MayT l s) (he : EntsAt w bv xs) (hg : GoodB (user, xs)) (hlen : l.length + (frameL (user, xs)).length ≤ 100000)
    (hmx : w.cell? ⟨0, 0, none⟩ = some (.int .i64 m)) :
    Calls Tryd.prog 21 #[tv, .agg #[.int .i64 user, bv]] w (AppPost w (l ++ frameL (user, xs)) s) := by
  obtain ⟨i0, hi, hz0, hz1, hz2⟩ := info_parts infoU8
  have HI := Lib.hid hi; have HZ0 := Lib.hid hz0; have HZ1 := Lib.hid hz1; have HZ2 := Lib.hid hz2
  clear hi hz0 hz1 hz2
  have hO : Hid (Opens l s tv w) := opens_of h hm
  obtain ⟨g1, g2, g3⟩ := bcheck_inv hg
  have hE : Hid (∀ w', Below w.heap.size w w' → Calls Tryd.prog 11 #[.agg #[.int .i64 user, bv]] w' fun e w'' => (∃ v', e = .returned (.tuple #[v', .int .i64 0]) ∧ OwnB w'' w'.heap.size 5 v' (batchL user xs)) ∧ Below w'.heap.size w' w'') := by
    intro w' hb
    have := encode_any user xs bv m w' (he.down hb) (fun x hx => (small_of_form (g3 x hx)).fits) (by have : user < 3 := g1; omega) (by have : xs.length ≤ 10 := g2.2; omega) (moved hmx hb (Nat.le_refl _))
    rw [show bcheckV user xs = 0 from hg, if_pos rfl] at this
    exact this
  have hW : Hid (∀ (base : Nat) (v : Value) (l : List UInt8) (n k : Nat) (w : World), OwnB w base 5 v l → base ≤ w.heap.size → k ≤ 3 → n < 16777216 → l.length ≤ 200000 → Calls Tryd.prog 24 #[v, .int .i64 n, .int .i64 k] w fun e w' => ∃ v', e = .returned v' ∧ OwnB w' base 5 v' (l ++ wideL n k) ∧ OGrows w w' v v') := wide_any
  have hfl := frameL_len (user, xs)
  have hpos := frameL_pos (user, xs)
  have hfr := Lib.hid (show frameL (user, xs) = wideL (batchL user xs).length 3 ++ batchL user xs from rfl)
  obtain ⟨B, hB⟩ : ∃ B, B = batchL user xs := ⟨_, rfl⟩
  have hfl2 : (frameL (user, xs)).length = B.length + 3 := by rw [hB]; exact hfl
  rw [← hB] at hE hfr
  obtain ⟨v, rfl, ⟨a, cap, rfl, hcap, _⟩⟩ := h
  obtain ⟨G0, cap0, rfl, _⟩ := he
  have HB1 := Lib.hid (ba (ba (ba (Below.refl _ w) (.cells #[.slice a l.length cap, .int .i64 s] 42)) (.cells #[.int .i64 user, .slice G0 xs.length cap0] 25)) (.cells #[.slice none 0 0, .int .i64 0] 42))
  have h2 := Has.alloc ((w.alloc (.cells #[.slice a l.length cap, .int .i64 s] 42)).alloc (.cells #[.int .i64 user, .slice G0 xs.length cap0] 25)) [.slice none 0 0, .int .i64 0] 42
  have h1 := (Has.alloc (w.alloc (.cells #[.slice a l.length cap, .int .i64 s] 42)) [.int .i64 user, .slice G0 xs.length cap0] 25).down (ba (Below.refl _ _) (.cells #[.slice none 0 0, .int .i64 0] 42))
  simp only [World.size_alloc] at h1 h2
  have H1 := Lib.hid h1; have H2 := Lib.hid h2
  have hs : -9223372036854775808 ≤ s ∧ s ≤ 9223372036854775807 := by have := hm.1; have := hm.2.1; have := hm.2.2; omega
  have hlB : l.length + B.length + 3 ≤ 100000 := by omega
  have hBp : 0 < B.length := by omega
  clear h1 h2 hm hmx hg g1 g2 g3 hB hfl hpos hlen hfl2
  go_enter Tryd.func21, Tryd.ntmps21
  go_wp2_with fail
  refine (hO.out _ HB1.out).mono ?_
  rintro e w1 ⟨⟨v, rfl, ho⟩, hb1⟩
  obtain ⟨G, cp, rfl⟩ := SliceOf.own ho
  obtain ⟨c0, c1, f0, f1⟩ := (H1.out.down hb1).two
  have hz := (H2.out.down hb1).2.2
  have HX1 := Lib.hid (Has.alloc w1 [.slice G l.length cp, .int .i64 s] 42)
  have hXne : some w1.heap.size ≠ (Value.slice G l.length cp).ownBlock := fun e => by have := (ho.lt _ e.symm).2; omega
  have HBA := Lib.hid (ba (bt HB1.out hb1) (.cells #[.slice G l.length cp, .int .i64 s] 42))
  have HOA := Lib.hid (ho.alloc (.cells #[.slice G l.length cp, .int .i64 s] 42))
  have HRA := Lib.hid ((H2.out.down hb1).down (ba (Below.refl _ _) (.cells #[.slice G l.length cp, .int .i64 s] 42)))
  clear ho hb1
  have hz1 : w.heap.size + 1 < w1.heap.size := by omega
  go_wp2_with fail
  refine (hE.out _ HBA.out).mono ?_
  rintro e w2 ⟨⟨v2, rfl, ho2⟩, hb2⟩
  obtain ⟨gF, cF, rfl, hF1, hF2⟩ := World.ownsRow.form ho2 hBp
  have hX2 := HX1.out.down hb2
  have hB2 := bt HBA.out hb2
  have hO2 := row_down HOA.out hb2
  have hR2 := HRA.out.down hb2
  have hFne : (Value.slice G l.length cp).ownBlock ≠ some gF := by
    intro e
    have := (HOA.out.lt _ e).2
    omega
  obtain ⟨d0, d1, q0, q1⟩ := hX2.two
  have hz2 := hX2.2.2
  have HX2 := Lib.hid hX2; have HB2 := Lib.hid hB2; have HO2 := Lib.hid hO2; have HR2 := Lib.hid hR2; have HF := Lib.hid ho2
  clear hX2 hB2 hO2 hR2 ho2 hb2 c0 c1 f0 f1
  go_wp2_with fail
  obtain ⟨base, hbase⟩ : ∃ base, base = (((w.alloc (.cells #[.slice a l.length cap, .int .i64 s] 42)).alloc (.cells #[.int .i64 user, .slice G0 xs.length cap0] 25)).alloc (.cells #[.slice none 0 0, .int .i64 0] 42)).heap.size := ⟨_, rfl⟩
  have hO2 := HO2.out
  rw [← hbase] at hO2
  simp only [World.size_alloc] at hbase
  have hRb : w.heap.size + 1 + 1 < base := by omega
  have hbs : base ≤ w2.heap.size := by omega
  refine (hW.out base _ l B.length 3 _ hO2 hbs (by omega) (by omega) (by omega)).mono ?_
  rintro e w3 ⟨v3, rfl, ho3, hg3⟩
  have hF3 := HF.out.kept hg3.1 (.inr (fun e => hFne e.symm))
  have hX3 := HX2.out.kept hg3.1 hXne
  have hRne := row_apart hO2 hRb
  have hR3 := HR2.out.kept hg3.1 hRne
  have hB3 := below_row HB2.out (Nat.le_refl _) hO2 (by omega) hg3.1
  have hXn3 := hg3.2 _ (by omega) hXne
  have hRn3 := hg3.2 _ (by omega) hRne
  have hs3 := hg3.1.size
  have hNW : Hid (∀ j u, (bcells B)[j]? = some u → w3.cell? (Addr.add ⟨gF, 0, none⟩ j) = some u) := fun j u hj => World.ownsRow.cells hF3 (g := gF) rfl j _ hj
  have hlw : (l ++ wideL B.length 3).length = l.length + 3 := by rw [List.length_append, wideL_length]
  obtain ⟨L, hL⟩ : ∃ L, L = l ++ wideL B.length 3 := ⟨_, rfl⟩
  have hfr2 : Hid (l ++ frameL (user, xs) = L ++ B) := by unfold Hid; rw [hfr.out, hL, List.append_assoc]
  rw [← hL] at ho3 hlw
  have HX3 := Lib.hid hX3; have HR3 := Lib.hid hR3; have HB3 := Lib.hid hB3; have HO3 := Lib.hid ho3; have HLW := Lib.hid hlw
  have hL3 : L.length ≤ 100000 := by omega
  have hLB : L.length + B.length ≤ 100000 := by omega
  clear hL hX3 hR3 hB3 ho3 hlw hF3 hO2 hbase d0 d1 q0 q1 hg3 HF HX2 HR2 HB2 HO2
  go_wp2_with (at_builtin; refine wpList_append_lies _ (by rfl) _ _ _ (by rfl) base 5 i0 _ 1 1 Tryd.underlying27 HI.out HZ0.out HZ1.out HZ2.out rfl (by omega) v3 L.length (bcells L) (by rfl) HO3.out ⟨gF, 0, none⟩ B.length cF (bcells B) (by rfl) (by rw [bcells_length, Nat.mul_one]) hNW.out (bcells_one B) hBp (by unfold maxLen; omega) (by omega) (by omega) w3.heap.size rfl ?_)
  intro g cap3 w4 hown4 hgrow4 hat4 hlt4
  have hX4 := HX3.out.kept hgrow4 hXn3
  have hR4 := HR3.out.kept hgrow4 hRn3
  have hB4 := below_row HB3.out (Nat.le_refl _) HO3.out (by omega) hgrow4
  have hgX : w1.heap.size ≠ g := by
    rcases hat4 with h | h
    · intro e; exact hXn3 (by rw [h, e])
    · omega
  have hgR : w.heap.size + 1 + 1 ≠ g := by
    rcases hat4 with h | h
    · intro e; exact hRn3 (by rw [h, e])
    · omega
  have hown5 : Hid (OwnB w4 base 5 (.slice (some ⟨g, 0, none⟩) (L.length + B.length) cap3) (L ++ B)) := by
    unfold Hid OwnB
    rw [bcells_append, List.length_append]
    exact hown4
  obtain ⟨d0, d1, q0, q1⟩ := hX4.two
  obtain ⟨c0, c1, f0, f1⟩ := hR4.two
  have HX4 := Lib.hid hX4; have HR4 := Lib.hid hR4; have HB4 := Lib.hid hB4
  have hXR : w.heap.size + 1 + 1 ≠ w1.heap.size := by omega
  clear hX4 hR4 hB4 hown4 hgrow4 hat4
  go_wp2_with fail
  rw [hfr2.out]
  exact append_end (R := w.heap.size + 1 + 1) rfl rfl rfl (((HR4.out.else' hXR _).set' (i := 0) (.slice (some ⟨g, 0, none⟩) (L.length + B.length) cap3) (by simp)).set' (i := 1) (.int .i64 s) (by simp))
    (OwnB.bytes (row_off (row_off (row_off hown5.out (fun e => hgX (Option.some.inj e).symm) 0 _) (fun e => hgR (Option.some.inj e).symm) 0 _) (fun e => hgR (Option.some.inj e).symm) 1 _))
    (fun k hk => by have := (hown5.out.lt k hk).1; omega)
    (((HB4.out.setCell (p := ⟨w1.heap.size, 0, none⟩) (by show w.heap.size ≤ w1.heap.size; omega) _).setCell (p := ⟨w.heap.size + 1 + 1, 0, none⟩) (by show w.heap.size ≤ w.heap.size + 1 + 1; omega) _).setCell (p := ⟨w.heap.size + 1 + 1, 1, none⟩) (by show w.heap.size ≤ w.heap.size + 1 + 1; omega) _)
end Go.Proofs.YtdobigkhilimlaaDoor
