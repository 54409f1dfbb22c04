/-
  DERIVED. (*cutter).one of token: the walk.
-/
import Derived.Test.YtpjiiipabbchiaaDoorTkText
import Derived.Test.YtpjiiipabbchiaaDoorTkNum
import Derived.Test.YtpjiiipabbchiaaDoorTokLaws
namespace Go.Proofs.YtpjiiipabbchiaaDoor.Tk
open Go.RowKit

/-- what 'one' answers -/
def OnePost (b : Nat) (s : ByteArray) (l : List UInt8) (w : World) (e : Ending) (w' : World) : Prop :=
  (match oneL l with
    | .error z => e = .returned (.tuple #[.agg #[.int .i64 0, .string ⟨#[]⟩, .int .i64 0], .int .i64 z])
    | .ok p => e = .returned (.tuple #[.agg #[.int .i64 p.1.kind, .string ⟨p.1.text.toArray⟩, .int .i64 p.1.num], .int .i64 0]) ∧ RdrL w' b s p.2) ∧ w.grownBy w' (some b)
theorem has_tri {w : World} {b : Nat} {a0 a1 a2 : Value} (h : Has w b [a0, a1, a2]) : (w.cell? ⟨b, 0, none⟩ = some a0 ∧ w.cell? ⟨b, 1, none⟩ = some a1 ∧ w.cell? ⟨b, 2, none⟩ = some a2) ∧ (w.frozen? ⟨b, 0, none⟩ = false ∧ w.frozen? ⟨b, 1, none⟩ = false ∧ w.frozen? ⟨b, 2, none⟩ = false) :=
  ⟨⟨h.1 0 _ rfl, h.1 1 _ rfl, h.1 2 _ rfl⟩, ⟨h.2.1 0 (by simp), h.2.1 1 (by simp), h.2.1 2 (by simp)⟩⟩
theorem grown_else {w W : World} {b R : Nat} (hg : w.grownBy W (some b)) (hR : w.heap.size ≤ R) (i : Nat) (v : Value) : w.grownBy (W.setCell ⟨R, i, none⟩ v) (some b) := by
  have g := Go.Lib.grownBy_setB (World.grownBy.refl W (some R)) i v
  exact ⟨g.os.trans hg.os, g.tape.trans hg.tape, g.output.trans hg.output, Nat.le_trans hg.size g.size, fun k hk hn => (g.block k (Nat.lt_of_lt_of_le hk hg.size) (by intro e; have := Option.some.inj e; omega)).trans (hg.block k hk hn)⟩
theorem RdrL.else' {W : World} {b R : Nat} {s : ByteArray} {l : List UInt8} (h : RdrL W b s l) (hR : b ≠ R) (i : Nat) (v : Value) : RdrL (W.setCell ⟨R, i, none⟩ v) b s l := by
  obtain ⟨n, h1, h2, h3, h4, h5⟩ := h
  exact ⟨n, h1, (World.cell?_setCell_other _ _ _ _ (by intro e; exact hR (congrArg Addr.block e).symm)).trans h2, (World.cell?_setCell_other _ _ _ _ (by intro e; exact hR (congrArg Addr.block e).symm)).trans h3, (World.frozen?_setCell ..).trans h4, by simpa [World.setCell] using h5⟩
/-- the result's variable, written whole -/
def w3 (W : World) (R : Nat) (x y z : Value) : World := ((W.setCell ⟨R, 0, none⟩ x).setCell ⟨R, 1, none⟩ y).setCell ⟨R, 2, none⟩ z
theorem w3_facts {w W : World} {b R : Nat} {s : ByteArray} {r : List UInt8} {a0 a1 a2 : Value} (h : Has W R [a0, a1, a2]) (hb : b < R) (hR : w.heap.size ≤ R) (hg : w.grownBy W (some b)) (x y z : Value) : Has (w3 W R x y z) R [x, y, z] ∧ (RdrL W b s r → RdrL (w3 W R x y z) b s r) ∧ w.grownBy (w3 W R x y z) (some b) :=
  ⟨((h.set' (i := 0) _ (by simp)).set' (i := 1) _ (by simp)).set' (i := 2) _ (by simp), fun hr => ((hr.else' (by omega) 0 _).else' (by omega) 1 _).else' (by omega) 2 _, grown_else (grown_else (grown_else hg hR 0 _) hR 1 _) hR 2 _⟩
theorem one_end {R b : Nat} {s : ByteArray} {l : List UInt8} {a : Act} {W w : World} {k n z : Int} {x : ByteArray} (ht : a.tmps.getD 2 undef = .pointer (some ⟨R, 0, none⟩)) (h3 : a.tmps.getD 3 undef = .int .i64 z) (hd : a.defers = []) (h : Has W R [.int .i64 k, .string x, .int .i64 n])
    (hp : OnePost b s l w (.returned (.tuple #[.agg #[.int .i64 k, .string x, .int .i64 n], .int .i64 z])) W) : bodyPost Tryd.prog Tryd.f22 (OnePost b s l w) .ret a W := by
  obtain ⟨⟨c0, c1, c2⟩, -⟩ := has_tri h
  refine bodyPost_ret (v := .tuple #[.agg #[.int .i64 k, .string x, .int .i64 n], .int .i64 z]) ?_ hd hp
  have ht' : a.tmps[2]?.getD undef = .pointer (some ⟨R, 0, none⟩) := by simpa using ht
  have h3' : a.tmps[3]?.getD undef = .int .i64 z := by simpa using h3
  simp [results, Tryd.results22, go_sem, ht', h3', c0, c1, c2]
theorem OnePost.err {b : Nat} {s : ByteArray} {l : List UInt8} {w w' : World} {z : Int} (h : oneL l = .error z) (g : w.grownBy w' (some b)) : OnePost b s l w (.returned (.tuple #[.agg #[.int .i64 0, .string ⟨#[]⟩, .int .i64 0], .int .i64 z])) w' := by
  unfold OnePost; rw [h]; exact ⟨rfl, g⟩
theorem OnePost.ok {b : Nat} {s : ByteArray} {l r x : List UInt8} {w w' : World} {k n : Int} (h : oneL l = .ok (⟨k, x, n⟩, r)) (hr : RdrL w' b s r) (g : w.grownBy w' (some b)) : OnePost b s l w (.returned (.tuple #[.agg #[.int .i64 k, .string ⟨x.toArray⟩, .int .i64 n], .int .i64 0])) w' := by
  unfold OnePost; rw [h]; exact ⟨⟨rfl, hr⟩, g⟩
theorem ib_marks (c : UInt8) : decide (0 ≤ Go.Lib.indexByte [123, 125, 40, 41, 91, 93, 59, 44] c) = decide (c ∈ marks) :=
  byte_all (fun c => decide (0 ≤ Go.Lib.indexByte [123, 125, 40, 41, 91, 93, 59, 44] c) = decide (c ∈ marks)) (by decide +kernel) c
theorem one_bad {b : UInt8} (t : List UInt8) (h1 : isLet b = false) (h2 : b ≠ 58) (h3 : isDig b = false) (h4 : b ≠ 34) (h5 : b ∉ marks) : oneL (b :: t) = .error 3 := by
  show (if isLet b = true then _ else if b = 58 then _ else if isDig b = true then numL (b :: t) else if b = 34 then _ else if b ∈ marks then _ else _) = _
  rw [if_neg (by rw [h1]; simp), if_neg h2, if_neg (by rw [h3]; simp), if_neg h4, if_neg h5]
theorem one_tag_bad (t : List UInt8) (h : hdOf isLet t = false) : oneL (58 :: t) = .error 3 := if_neg (by rw [h]; simp)
theorem hd_let (l : List UInt8) : hdOf isLet l = isLet (nextL l) := by
  cases l with
  | nil => decide
  | cons c t => rfl
theorem u8_ne {c k : UInt8} (h : c ≠ k) : ((c.toNat : Int) == (k.toNat : Int)) = false := beq_eq_false_iff_ne.2 (fun e => h (UInt8.toNat_inj.1 (Int.ofNat_inj.1 e)))
theorem num_err {l : List UInt8} {z : Int} (h : numL l = .error z) : z = 3 ∨ z = 6 := by
  unfold numL at h
  split at h
  · injection h with h; exact .inl h.symm
  · split at h
    · injection h with h; exact .inr h.symm
    · cases h
theorem num_form {l r x : List UInt8} {k v : Int} (h : numL l = .ok (⟨k, x, v⟩, r)) : k = 3 ∧ x = [] := by
  unfold numL at h
  split at h
  · cases h
  · split at h
    · cases h
    · injection h with h
      injection h with h h2
      injection h with a1 a2 a3
      exact ⟨a1.symm, a2.symm⟩
theorem byte_str (W : World) (c : UInt8) : (convert 45 9 (.slice (some ⟨W.heap.size, 0, none⟩) 1 1)).run Tryd.prog (W.alloc (.cells #[.int .u8 (c.toNat : Int)] 5)) = .ok (.string ⟨#[c]⟩) (W.alloc (.cells #[.int .u8 (c.toNat : Int)] 5)) := by
  have h : OwnB (W.alloc (.cells #[.int .u8 (c.toNat : Int)] 5)) W.heap.size 5 (.slice (some ⟨W.heap.size, 0, none⟩) 1 1) [c] :=
    World.ownsRow_lit W #[.int .u8 (c.toNat : Int)] 1 (Nat.le_refl _) (by decide) rfl
  exact run_str_own h Tryd.underlying45 Tryd.underlying5 Tryd.underlying9

set_option maxHeartbeats 8000000 in
set_option maxRecDepth 20000 in
theorem one_any (b : Nat) (s : ByteArray) (c : UInt8) (t : List UInt8) (te : TypeId) (pe : Value) (w : World) (hs : s.size ≤ 100000) (h : RdrL w b s (c :: t)) (hb0 : 5 < b) (hev : w.cell? ⟨5, 0, none⟩ = some (.iface te pe)) :
    Calls Tryd.prog 22 #[.pointer (some ⟨b, 0, none⟩)] w (OnePost b s (c :: t) w) := by
  have hbw := h.lt
  obtain ⟨R, hR⟩ : ∃ R, R = w.heap.size := ⟨_, rfl⟩
  have hA := ba (Below.refl w.heap.size w) (.cells #[.int .i64 0, .string ⟨#[]⟩, .int .i64 0] 31)
  have hH0 : Has (w.alloc (.cells #[.int .i64 0, .string ⟨#[]⟩, .int .i64 0] 31)) w.heap.size [.int .i64 0, .string ⟨#[]⟩, .int .i64 0] := Has.alloc w _ _
  rw [← hR] at hH0
  have hrd0 := h.below hA
  have hg0 : w.grownBy (w.alloc (.cells #[.int .i64 0, .string ⟨#[]⟩, .int .i64 0] 31)) (some b) := Go.Lib.grownBy_below (World.grownBy.refl _ _) hA
  have hev0 := moved hev hA (Nat.le_refl _)
  have hR1 : b < R := by omega
  have hR2 : w.heap.size ≤ R := by omega
  obtain ⟨W0, hW0⟩ : ∃ W0, W0 = w.alloc (.cells #[.int .i64 0, .string ⟨#[]⟩, .int .i64 0] 31) := ⟨_, rfl⟩
  rw [← hW0] at hH0 hrd0 hg0 hev0
  have HW0 := Lib.hid hW0.symm; have HR := Lib.hid hR.symm
  obtain ⟨n, hre, hrr⟩ := hrd0
  have HRE := Lib.hid hre
  have HN := Lib.hid (fun (w' : World) (h' : Rdr w' b s n) => next_any b n s (c :: t) w' hs hre h')
  have HRR := Lib.hid hrr; have HH0 := Lib.hid hH0; have HG0 := Lib.hid hg0; have HEV0 := Lib.hid hev0
  clear hW0 hA hH0 hg0 hev0 hev hre hrr h hR
  have HNX : Hid (nextL (c :: t) = c) := rfl
  go_enter Tryd.func22, Tryd.ntmps22
  go_wp2_with fail
  rw [HW0.out, HR.out]
  clear HW0 HR
  refine (HN.out _ HRR.out).mono ?_
  rw [HNX.out]
  rintro e w1 ⟨rfl, hkk⟩
  have hb1 : Below W0.heap.size W0 w1 := by obtain ⟨k, rfl⟩ := hkk; exact below_drewN _ _
  have HRR1 := Lib.hid (HRR.out.below hb1); have HH1 := Lib.hid (HH0.out.down hb1); have HG1 := Lib.hid (Go.Lib.grownBy_below HG0.out hb1); have HEV1 := Lib.hid (moved HEV0.out hb1 (Nat.le_refl _))
  have HRL1 : Hid (RdrL w1 b s (c :: t)) := ⟨n, HRE.out, HRR1.out⟩
  clear hkk hb1 HN HRR HH0 HG0 HEV0
  cases hl : isLet c with
  | true =>
    have HL := Lib.hid (fun w => hl ▸ letter_any c w)
    have HW := Lib.hid (word_at b s (c :: t) w1 hs HRL1.out)
    have HFIN := Lib.hid (one_word t hl)
    clear hl
    go_wp2_with fail
    refine (HL.out _).mono ?_
    rintro e w2 ⟨rfl, rfl⟩
    go_wp2_with fail
    refine HW.out.mono ?_
    rintro e w2 ⟨rfl, hrd2, hg2⟩
    have hh2 := HH1.out.kept hg2 (fun e => by have := Option.some.inj e; omega)
    have HG2 := Lib.hid (Go.Lib.grownBy_trans HG1.out hg2)
    have HRD2 := Lib.hid hrd2; have HH2 := Lib.hid hh2
    clear hg2 hrd2 HW HL
    obtain ⟨⟨c0, c1, c2⟩, ⟨f0, f1, f2⟩⟩ := has_tri hh2
    clear hh2
    go_wp2_with fail
    obtain ⟨z1, z2, z3⟩ := w3_facts (b := b) (s := s) (r := (c :: t).dropWhile isWd) HH2.out hR1 hR2 HG2.out (.int .i64 1) (.string ⟨((c :: t).takeWhile isWd).toArray⟩) (.int .i64 0)
    exact one_end rfl rfl rfl z1 (OnePost.ok HFIN.out (z2 HRD2.out) z3)
  | false =>
    have HL := Lib.hid (fun w => hl ▸ letter_any c w)
    by_cases h58 : c = 58
    · have q58 : ((c.toNat : Int) == 58) = true := by rw [h58]; rfl
      obtain ⟨hlt, -, hre1⟩ := HRE.out.cons
      have HRE1 := Lib.hid hre1
      have hrr2 := HRR1.out.step
      have hg2 := Go.Lib.grownBy_setB HG1.out 1 (.int .i64 ((n : Int) + 1))
      have hh2 := HH1.out.else' (show R ≠ b by omega) (i := 1) (.int .i64 ((n : Int) + 1))
      obtain ⟨x0, x1, g1, hbw1⟩ := HRR1.out
      have HC := Lib.hid h58
      clear hl h58 hre1
      go_wp2_with fail
      refine (HL.out _).mono ?_
      rintro e w2 ⟨rfl, rfl⟩
      go_upto_region 6 with fail
      clear x0 x1 g1 hbw1 q58
      obtain ⟨W2, hW2⟩ : ∃ W2, W2 = w1.setCell ⟨b, 1, none⟩ (.int .i64 ((n : Int) + 1)) := ⟨_, rfl⟩
      rw [← hW2] at hrr2 hg2 hh2 ⊢
      have HRR2 := Lib.hid hrr2; have HG2 := Lib.hid hg2; have HH2 := Lib.hid hh2
      have HN2 := Lib.hid (next_any b (n + 1) s t W2 hs HRE1.out HRR2.out)
      clear hW2 hrr2 hg2 hh2 HL
      go_wp2_with fail
      refine HN2.out.mono ?_
      rintro e w3' ⟨rfl, hkk⟩
      have hb3 : Below W2.heap.size W2 w3' := by obtain ⟨k, rfl⟩ := hkk; exact below_drewN _ _
      have HRL3 : Hid (RdrL w3' b s t) := ⟨n + 1, HRE1.out, HRR2.out.below hb3⟩
      have HH3 := Lib.hid (HH2.out.down hb3); have HG3 := Lib.hid (Go.Lib.grownBy_below HG2.out hb3)
      clear hkk hb3 HN2 HRR2 HG2 HH2
      cases hl2 : isLet (nextL t) with
      | true =>
        have HL2 := Lib.hid (fun w => hl2 ▸ letter_any (nextL t) w)
        have HW := Lib.hid (word_at b s t w3' hs HRL3.out)
        have HFIN : Hid (oneL (c :: t) = .ok (⟨2, t.takeWhile isWd, 0⟩, t.dropWhile isWd)) := by unfold Hid; rw [HC.out]; exact one_tag t (by rw [hd_let, hl2])
        clear hl2
        go_wp2_with fail
        refine (HL2.out _).mono ?_
        rintro e w4 ⟨rfl, rfl⟩
        go_wp2_with fail
        refine HW.out.mono ?_
        rintro e w4 ⟨rfl, hrd4, hg4⟩
        have HH4 := Lib.hid (HH3.out.kept hg4 (fun e => by have := Option.some.inj e; omega))
        have HG4 := Lib.hid (Go.Lib.grownBy_trans HG3.out hg4)
        have HRD4 := Lib.hid hrd4
        clear hg4 hrd4 HW HL2
        obtain ⟨⟨c0, c1, c2⟩, ⟨f0, f1, f2⟩⟩ := has_tri HH4.out
        go_wp2_with fail
        obtain ⟨z1, z2, z3⟩ := w3_facts (b := b) (s := s) (r := t.dropWhile isWd) HH4.out hR1 hR2 HG4.out (.int .i64 2) (.string ⟨(t.takeWhile isWd).toArray⟩) (.int .i64 0)
        exact one_end rfl rfl rfl z1 (OnePost.ok HFIN.out (z2 HRD4.out) z3)
      | false =>
        have HL2 := Lib.hid (fun w => hl2 ▸ letter_any (nextL t) w)
        have HFIN : Hid (oneL (c :: t) = .error 3) := by unfold Hid; rw [HC.out]; exact one_tag_bad t (by rw [hd_let, hl2])
        clear hl2
        obtain ⟨⟨c0, c1, c2⟩, ⟨f0, f1, f2⟩⟩ := has_tri HH3.out
        go_wp2_with fail
        refine (HL2.out _).mono ?_
        rintro e w4 ⟨rfl, rfl⟩
        go_wp2_with fail
        obtain ⟨z1, z2, z3⟩ := w3_facts (b := b) (s := s) (r := []) HH3.out hR1 hR2 HG3.out (.int .i64 0) (.string ⟨#[]⟩) (.int .i64 0)
        exact one_end rfl rfl rfl z1 (OnePost.err HFIN.out z3)
    · have q58 : ((c.toNat : Int) == 58) = false := u8_ne h58
      cases hd : isDig c with
      | true =>
        have HD := Lib.hid (fun w => hd ▸ digit_any c w)
        have HNU := Lib.hid (number_any b s c t te pe w1 hs HRL1.out hd hb0 HEV1.out)
        have HONE := Lib.hid (one_num t hd)
        clear hl hd
        go_wp2_with fail
        refine (HL.out _).mono ?_
        rintro e w2 ⟨rfl, rfl⟩
        go_wp2_with fail
        refine (HD.out _).mono ?_
        rintro e w2 ⟨rfl, rfl⟩
        go_wp2_with fail
        refine HNU.out.mono ?_
        intro e w3' hp
        unfold NumPost at hp
        obtain ⟨hp, hg3⟩ := hp
        have HH3 := Lib.hid (HH1.out.kept hg3 (fun e => by have := Option.some.inj e; omega))
        have HG3 := Lib.hid (Go.Lib.grownBy_trans HG1.out hg3)
        clear hg3 HNU
        cases hn : numL (c :: t) with
        | error z =>
          rw [hn] at hp
          obtain rfl := hp
          have hz : z = 3 ∨ z = 6 := num_err hn
          have HFIN : Hid (oneL (c :: t) = .error z) := by unfold Hid; rw [HONE.out, hn]
          clear hn HONE
          obtain ⟨⟨c0, c1, c2⟩, ⟨f0, f1, f2⟩⟩ := has_tri HH3.out
          rcases hz with rfl | rfl
          all_goals
            go_wp2_with fail
            obtain ⟨z1, z2, z3⟩ := w3_facts (b := b) (s := s) (r := []) HH3.out hR1 hR2 HG3.out (.int .i64 0) (.string ⟨#[]⟩) (.int .i64 0)
            exact one_end rfl rfl rfl z1 (OnePost.err HFIN.out z3)
        | ok p =>
          rw [hn] at hp
          obtain ⟨rfl, hrd3⟩ := hp
          obtain ⟨⟨k, x, v⟩, r⟩ := p
          obtain ⟨rfl, rfl⟩ := num_form hn
          have HFIN : Hid (oneL (c :: t) = .ok (⟨3, [], v⟩, r)) := by unfold Hid; rw [HONE.out, hn]
          have HRD3 : Hid (RdrL w3' b s r) := hrd3
          clear hn HONE hrd3
          obtain ⟨⟨c0, c1, c2⟩, ⟨f0, f1, f2⟩⟩ := has_tri HH3.out
          go_wp2_with fail
          obtain ⟨z1, z2, z3⟩ := w3_facts (b := b) (s := s) (r := r) HH3.out hR1 hR2 HG3.out (.int .i64 3) (.string ⟨#[]⟩) (.int .i64 v)
          exact one_end rfl rfl rfl z1 (OnePost.ok HFIN.out (z2 HRD3.out) z3)
      | false =>
        have HD := Lib.hid (fun w => hd ▸ digit_any c w)
        by_cases h34 : c = 34
        · have q34 : ((c.toNat : Int) == 34) = true := by rw [h34]; rfl
          have HT := Lib.hid (text_any b s c t w1 hs HRL1.out)
          have HC := Lib.hid h34
          clear hl hd h34
          go_wp2_with fail
          refine (HL.out _).mono ?_
          rintro e w2 ⟨rfl, rfl⟩
          go_wp2_with fail
          refine (HD.out _).mono ?_
          rintro e w2 ⟨rfl, rfl⟩
          go_wp2_with fail
          refine HT.out.mono ?_
          intro e w3' hp
          unfold TextPost at hp
          obtain ⟨hp, hg3⟩ := hp
          have HH3 := Lib.hid (HH1.out.kept hg3 (fun e => by have := Option.some.inj e; omega))
          have HG3 := Lib.hid (Go.Lib.grownBy_trans HG1.out hg3)
          clear hg3 HT
          cases hn : textL t with
          | none =>
            rw [hn] at hp
            obtain rfl := hp
            have HFIN : Hid (oneL (c :: t) = .error 4) := by unfold Hid; rw [HC.out]; exact one_open hn
            clear hn
            obtain ⟨⟨c0, c1, c2⟩, ⟨f0, f1, f2⟩⟩ := has_tri HH3.out
            go_wp2_with fail
            obtain ⟨z1, z2, z3⟩ := w3_facts (b := b) (s := s) (r := []) HH3.out hR1 hR2 HG3.out (.int .i64 0) (.string ⟨#[]⟩) (.int .i64 0)
            exact one_end rfl rfl rfl z1 (OnePost.err HFIN.out z3)
          | some p =>
            rw [hn] at hp
            obtain ⟨rfl, hrd3⟩ := hp
            obtain ⟨x, r⟩ := p
            have HFIN : Hid (oneL (c :: t) = .ok (⟨4, x, 0⟩, r)) := by unfold Hid; rw [HC.out]; exact one_str hn
            have HRD3 : Hid (RdrL w3' b s r) := hrd3
            clear hn hrd3
            obtain ⟨⟨c0, c1, c2⟩, ⟨f0, f1, f2⟩⟩ := has_tri HH3.out
            go_wp2_with fail
            obtain ⟨z1, z2, z3⟩ := w3_facts (b := b) (s := s) (r := r) HH3.out hR1 hR2 HG3.out (.int .i64 4) (.string ⟨x.toArray⟩) (.int .i64 0)
            exact one_end rfl rfl rfl z1 (OnePost.ok HFIN.out (z2 HRD3.out) z3)
        · have q34 : ((c.toNat : Int) == 34) = false := u8_ne h34
          have HIB : Hid (∀ w, Calls Tryd.prog 40 #[.string ⟨#[123, 125, 40, 41, 91, 93, 59, 44]⟩, .int .u8 (c.toNat : Int)] w fun e w' => e = .returned (.int .i64 (Go.Lib.indexByte [123, 125, 40, 41, 91, 93, 59, 44] c)) ∧ w = w') := by
            intro w
            have hx := Tryd.strings_IndexByte ⟨#[123, 125, 40, 41, 91, 93, 59, 44]⟩ (c.toNat : Int) w
            have e1 : ((c.toNat : Int).toNat.toUInt8) = c := by rw [Int.toNat_natCast]; exact UInt8.ofNat_toNat
            rw [e1] at hx
            exact hx.mono fun _ _ ⟨x, y⟩ => ⟨x, y.symm⟩
          have him := ib_marks c
          obtain ⟨ib, hib⟩ : ∃ ib, ib = Go.Lib.indexByte [123, 125, 40, 41, 91, 93, 59, 44] c := ⟨_, rfl⟩
          rw [← hib] at HIB him
          clear hib
          by_cases hm : c ∈ marks
          · rw [decide_eq_true hm] at him
            have HFIN : Hid (oneL (c :: t) = .ok (⟨5, [c], 0⟩, t)) := one_mark t hm
            obtain ⟨hlt, -, hre1⟩ := HRE.out.cons
            have HRE1 := Lib.hid hre1
            have hrr2 := HRR1.out.step
            have hg2 := Go.Lib.grownBy_setB HG1.out 1 (.int .i64 ((n : Int) + 1))
            have hh2 := HH1.out.else' (show R ≠ b by omega) (i := 1) (.int .i64 ((n : Int) + 1))
            obtain ⟨x0, x1, g1, hbw1⟩ := HRR1.out
            clear hl hd h34 h58 hm hre1
            go_wp2_with fail
            refine (HL.out _).mono ?_
            rintro e w2 ⟨rfl, rfl⟩
            go_wp2_with fail
            refine (HD.out _).mono ?_
            rintro e w2 ⟨rfl, rfl⟩
            go_wp2_with fail
            refine (HIB.out _).mono ?_
            rintro e w2 ⟨rfl, rfl⟩
            go_upto_region 21 with fail
            clear x0 x1 g1 hbw1
            obtain ⟨W2, hW2⟩ : ∃ W2, W2 = w1.setCell ⟨b, 1, none⟩ (.int .i64 ((n : Int) + 1)) := ⟨_, rfl⟩
            rw [← hW2] at hrr2 hg2 hh2 ⊢
            have hA3 := ba (Below.refl W2.heap.size W2) (.cells #[.int .u8 (c.toNat : Int)] 5)
            have hcv := byte_str W2 c
            have HRL3 : Hid (RdrL (W2.alloc (.cells #[.int .u8 (c.toNat : Int)] 5)) b s t) := ⟨n + 1, HRE1.out, hrr2.below hA3⟩
            have HH3 := Lib.hid (hh2.down hA3); have HG3 := Lib.hid (Go.Lib.grownBy_below hg2 hA3)
            clear hW2 hrr2 hg2 hh2 hA3
            obtain ⟨⟨c0, c1, c2⟩, ⟨f0, f1, f2⟩⟩ := has_tri HH3.out
            go_wp2_with fail
            obtain ⟨z1, z2, z3⟩ := w3_facts (b := b) (s := s) (r := t) HH3.out hR1 hR2 HG3.out (.int .i64 5) (.string ⟨#[c]⟩) (.int .i64 0)
            exact one_end rfl rfl rfl z1 (OnePost.ok HFIN.out (z2 HRL3.out) z3)
          · rw [decide_eq_false hm] at him
            have HFIN : Hid (oneL (c :: t) = .error 3) := one_bad t hl h58 hd h34 hm
            clear hl hd h34 h58 hm
            obtain ⟨⟨c0, c1, c2⟩, ⟨f0, f1, f2⟩⟩ := has_tri HH1.out
            go_wp2_with fail
            refine (HL.out _).mono ?_
            rintro e w2 ⟨rfl, rfl⟩
            go_wp2_with fail
            refine (HD.out _).mono ?_
            rintro e w2 ⟨rfl, rfl⟩
            go_wp2_with fail
            refine (HIB.out _).mono ?_
            rintro e w2 ⟨rfl, rfl⟩
            go_wp2_with fail
            obtain ⟨z1, z2, z3⟩ := w3_facts (b := b) (s := s) (r := []) HH1.out hR1 hR2 HG1.out (.int .i64 0) (.string ⟨#[]⟩) (.int .i64 0)
            exact one_end rfl rfl rfl z1 (OnePost.err HFIN.out z3)
end Go.Proofs.YtpjiiipabbchiaaDoor.Tk
