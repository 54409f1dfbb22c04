/-
  DERIVED. 'Decode' of book: the walk.
-/
import Derived.Test.YtdobigkhilimlaaDoorDecPlain
import Derived.Test.YtdobigkhilimlaaDoorTextR
import Derived.Test.YtdobigkhilimlaaDoorEntriesOf
namespace Go.Proofs.YtdobigkhilimlaaDoor
open Go.RowKit

theorem Rd.below {w w' : World} {b : Nat} {r : Left} (h : Rd w b r) (hb : Below (b + 1) w w') : Rd w' b r := by
  cases r with
  | none =>
    obtain ⟨v, hp⟩ := h
    exact ⟨v, hp.below hb (Nat.lt_succ_self b)⟩
  | some l =>
    obtain ⟨a, cap, hp, hcap, hat, hap, hl⟩ := h
    refine ⟨a, cap, hp.below hb (Nat.lt_succ_self b), hcap, fun i c hi => ?_, hap, hl⟩
    obtain ⟨g, off, ha, hg, hc⟩ := hat i c hi
    have := hap _ ha
    have hlt : g < b := this
    exact ⟨g, off, ha, Nat.lt_of_lt_of_le hg hb.size, (hb.cell (p := ⟨g, off + i, none⟩) (by show g < b + 1; omega)).trans hc⟩
theorem Rd.lt {w : World} {b : Nat} {r : Left} (h : Rd w b r) : b < w.heap.size := by
  cases r with
  | none => obtain ⟨v, hp⟩ := h; exact hp.2.2.2.2
  | some l => obtain ⟨a, cap, hp, _⟩ := h; exact hp.2.2.2.2
theorem decode_end {R u : Nat} {c : Int} {v : Value} {a : Act} {W w : World} {xs : List Ent} (ht : a.tmps.getD 2 undef = .pointer (some ⟨R, 0, none⟩)) (ht3 : a.tmps.getD 3 undef = .int .i64 c) (hd : a.defers = [])
    (h : Has W R [.int .i64 u, v]) (he : EntsAt W v xs) (hb : Below w.heap.size w W) :
    bodyPost Tryd.prog Tryd.f12 (fun e w' => (∃ v, e = .returned (.tuple #[.agg #[.int .i64 u, v], .int .i64 c]) ∧ EntsAt w' v xs) ∧ Below w.heap.size w w') .ret a W := by
  obtain ⟨c0, c1, _, _⟩ := h.two
  refine bodyPost_ret (v := .tuple #[.agg #[.int .i64 u, v], .int .i64 c]) ?_ hd ⟨⟨_, rfl, he⟩, hb⟩
  have ht' : a.tmps[2]?.getD undef = .pointer (some ⟨R, 0, none⟩) := by simpa using ht
  have ht3' : a.tmps[3]?.getD undef = .int .i64 c := by simpa using ht3
  simp [results, Tryd.results12, go_sem, ht', ht3', c0, c1]
theorem decode_out {w W : World} {a : Act} {A B : (Nat × List Ent) × Int} (h : A = B)
    (hB : bodyPost Tryd.prog Tryd.f12 (fun e w' => (∃ v, e = .returned (.tuple #[.agg #[.int .i64 B.1.1, v], .int .i64 B.2]) ∧ EntsAt w' v B.1.2) ∧ Below w.heap.size w w') .ret a W) :
    bodyPost Tryd.prog Tryd.f12 (fun e w' => (∃ v, e = .returned (.tuple #[.agg #[.int .i64 A.1.1, v], .int .i64 A.2]) ∧ EntsAt w' v A.1.2) ∧ Below w.heap.size w w') .ret a W := by
  rw [h]; exact hB
theorem ents_nil (w : World) : EntsAt w (.slice none 0 0) [] := ⟨none, 0, rfl, fun i x h => by simp at h⟩
theorem num1_lt (r : Left) : (numL 1 r).1 < 256 := by
  have h := takeL_len 1 r
  have h2 := numV_lt (takeL 1 r).1.length (takeL 1 r).1 rfl
  have hp : 256 ^ (takeL 1 r).1.length ≤ 256 ^ 1 := Nat.pow_le_pow_right (by omega) h
  have : (256 : Nat) ^ 1 = 256 := by decide
  show numV (takeL 1 r).1 < 256
  omega
/-- the length of the slice in a cell -/
def lenAt (w : World) (b : Nat) : Nat := match w.cell? ⟨b, 1, none⟩ with
  | some (.slice _ n _) => n
  | _ => 0
theorem lenAt_eq {w : World} {b n c : Nat} {a : Option Addr} (h : w.cell? ⟨b, 1, none⟩ = some (.slice a n c)) : lenAt w b = n := by unfold lenAt; rw [h]
theorem readES_some (n : Nat) (l : List UInt8) : readES (n + 1) (some l) = ((readE (some l)).1 :: (readES n (readE (some l)).2).1, (readES n (readE (some l)).2).2) := rfl
/-- the entries so far, and those that come -/
def Goes (many : Nat) (r0 : Left) (acc : List Ent) (rest : Left) : Prop := acc.length ≤ many ∧ readES many r0 = (acc ++ (readES (many - acc.length) rest).1, (readES (many - acc.length) rest).2)
theorem Goes.start (many : Nat) (r0 : Left) : Goes many r0 [] r0 := ⟨Nat.zero_le _, rfl⟩
theorem Goes.next {many : Nat} {r0 : Left} {acc : List Ent} {l : List UInt8} (h : Goes many r0 acc (some l)) (hl : acc.length < many) : Goes many r0 (acc ++ [(readE (some l)).1]) (readE (some l)).2 := by
  refine ⟨by simp; omega, ?_⟩
  rw [h.2, show many - acc.length = (many - (acc.length + 1)) + 1 by omega, readES_some]
  simp
theorem Goes.last {many : Nat} {r0 : Left} {acc : List Ent} {rest : Left} (h : Goes many r0 acc rest) (hl : acc.length = many) : readES many r0 = (acc, rest) := by
  rw [h.2, hl, Nat.sub_self]
  show (acc ++ [], rest) = _
  rw [List.append_nil]
theorem Goes.none {many : Nat} {r0 : Left} {acc : List Ent} (h : Goes many r0 acc none) : (readES many r0).2 = none := by rw [h.2]; exact readES_none _

/-- what is answered behind the entries -/
def ansV (u : Nat) (p : List Ent × Left) : (Nat × List Ent) × Int := match p.2 with
  | none => ((0, []), 4)
  | some (_ :: _) => ((0, []), 3)
  | some [] => if bcheckV u p.1 = 0 then ((u, p.1), 0) else ((0, []), bcheckV u p.1)
theorem decodeV_eq {l : List UInt8} (h : ¬ 100000 < l.length) : decodeV l = ansV (numL 1 (some l)).1 (readES (numL 1 (numL 1 (some l)).2).1 (numL 1 (numL 1 (some l)).2).2) := by
  unfold decodeV ansV
  rw [if_neg h]; rfl
theorem readES_fits {k : Nat} {r : Left} {r' : List UInt8} (h : (readES k r).2 = some r') : (readES k r).1.length = k ∧ ∀ x ∈ (readES k r).1, Fits x := by
  obtain ⟨_, _, _, h3, h4⟩ := readES_snd k r r' h
  exact ⟨h3, h4⟩
/-- a step that leaves all but the reader's block as it was -/
theorem below_step {B b : Nat} {w w' : World} (g : w.grownBy w' (some b)) (hb : B ≤ b) (hB : B ≤ w.heap.size) : Below B w w' := (Below.refl B w).grown g hB (by intro k hk; obtain rfl := Option.some.inj hk; exact hb)
theorem row_step {w w' : World} {base e size n b : Nat} {v : Value} {l : List Value} (h : w.ownsRow base e size v n l) (g : w.grownBy w' (some b)) (hb : b < base) : w'.ownsRow base e size v n l :=
  h.kept g (by
    cases hv : v.ownBlock with
    | none => exact .inl rfl
    | some k => exact .inr (by intro e; have := (h.lt k hv).1; have := Option.some.inj e; omega))

theorem readE_parts (L : List UInt8) : ∃ (k f u : Nat) (b t x : List UInt8) (q1 q2 q3 q4 q5 q6 : Left), numL 1 (some L) = (k, q1) ∧ numL 1 q1 = (f, q2) ∧ numL 3 q2 = (u, q3) ∧ textL q3 = (b, q4) ∧ textL q4 = (t, q5) ∧ textL q5 = (x, q6) ∧ readE (some L) = (⟨k, f, u, b, t, x⟩, q6) :=
  ⟨_, _, _, _, _, _, _, _, _, _, _, _, rfl, rfl, rfl, rfl, rfl, rfl, rfl⟩

set_option maxHeartbeats 1500000 in
set_option maxRecDepth 20000 in
theorem decode_any (a : Option Addr) (cap : Nat) (l : List UInt8) (m : Int) (w : World) (hat : BytesAt w a l) (hcap : l.length ≤ cap) (hlt : ∀ x, a = some x → x.block < w.heap.size) (hl : l.length ≤ 200000) (hm : w.cell? ⟨0, 0, none⟩ = some (.int .i64 m)) :
    Calls Tryd.prog 12 #[.slice a l.length cap] w fun e w' => (∃ v, e = .returned (.tuple #[.agg #[.int .i64 (decodeV l).1.1, v], .int .i64 (decodeV l).2]) ∧ EntsAt w' v (decodeV l).1.2) ∧ Below w.heap.size w w' := by
  obtain ⟨i0, hi, hz0, hz1, hz2⟩ := info_parts infoEnt
  have HI := Lib.hid hi; have HZ0 := Lib.hid hz0; have HZ1 := Lib.hid hz1; have HZ2 := Lib.hid hz2
  clear hi hz0 hz1 hz2
  have hb0 := ba (Below.refl _ w) (.cells #[.int .i64 0, .slice none 0 0] 25)
  have h0 := Has.alloc w [.int .i64 0, .slice none 0 0] 25
  by_cases hbig : 100000 < l.length
  · have hv : decodeV l = ((0, []), 1) := by unfold decodeV; rw [if_pos hbig]
    rw [hv]
    clear hv
    go_enter Tryd.func12, Tryd.ntmps12
    go_wp2_with fail
    exact decode_end (R := w.heap.size) rfl rfl rfl h0 (ents_nil _) hb0
  have hN : Hid (∀ (r : Left) (k : Nat) (w' : World), k ≤ 3 → Rd w' (w.heap.size + 1) r → Calls Tryd.prog 25 #[.pointer (some ⟨w.heap.size + 1, 0, none⟩), .int .i64 k] w' fun e w'' => e = .returned (.int .i64 (numL k r).1) ∧ Rd w'' (w.heap.size + 1) (numL k r).2 ∧ w'.grownBy w'' (some (w.heap.size + 1))) :=
    fun r k w' hk h => number_any (w.heap.size + 1) r k w' hk h
  have hT : Hid (∀ (r : Left) (w' : World), Rd w' (w.heap.size + 1) r → Calls Tryd.prog 26 #[.pointer (some ⟨w.heap.size + 1, 0, none⟩)] w' fun e w'' => e = .returned (.string ⟨(textL r).1.toArray⟩) ∧ Rd w'' (w.heap.size + 1) (textL r).2 ∧ w'.grownBy w'' (some (w.heap.size + 1))) :=
    fun r w' h => textR_any (w.heap.size + 1) r w' h
  have hv := decodeV_eq hbig
  have hu := num1_lt (some l)
  have hml := num1_lt (numL 1 (some l)).2
  rw [hv]
  clear hv
  have hat1 : BytesAt ((w.alloc (.cells #[.int .i64 0, .slice none 0 0] 25)).alloc (.cells #[.slice a l.length cap, .bool false] 61)) a l := by
    intro i c hc
    obtain ⟨g, off, h1, h2, h3⟩ := hat i c hc
    have hb := ba (ba (Below.refl _ w) (.cells #[.int .i64 0, .slice none 0 0] 25)) (.cells #[.slice a l.length cap, .bool false] 61)
    exact ⟨g, off, h1, Nat.lt_of_lt_of_le h2 hb.size, moved h3 hb (Nat.le_refl _)⟩
  have hR0 : Rd ((w.alloc (.cells #[.int .i64 0, .slice none 0 0] 25)).alloc (.cells #[.slice a l.length cap, .bool false] 61)) (w.heap.size + 1) (some l) := by
    have hp := Pair.alloc (w.alloc (.cells #[.int .i64 0, .slice none 0 0] 25)) (.slice a l.length cap) (.bool false) 61
    simp only [World.size_alloc] at hp
    exact ⟨a, cap, hp, hcap, hat1, fun x hx => Nat.lt_succ_of_lt (hlt x hx), hl⟩
  have hb1 := ba hb0 (.cells #[.slice a l.length cap, .bool false] 61)
  have h1 := h0.down (ba (Below.refl _ _) (.cells #[.slice a l.length cap, .bool false] 61))
  have HR0 := Lib.hid hR0; have HB1 := Lib.hid hb1; have HH1 := Lib.hid h1; have HM := Lib.hid hm
  clear hb0 h0 hR0 hat1 hb1 h1 hat hm
  obtain ⟨u, hu1⟩ : ∃ u, u = (numL 1 (some l)).1 := ⟨_, rfl⟩
  obtain ⟨r1, hr1⟩ : ∃ r1, r1 = (numL 1 (some l)).2 := ⟨_, rfl⟩
  rw [← hr1] at hml
  obtain ⟨many, hm1⟩ : ∃ k, k = (numL 1 r1).1 := ⟨_, rfl⟩
  obtain ⟨r2, hr2⟩ : ∃ r, r = (numL 1 r1).2 := ⟨_, rfl⟩
  have hN1 := hN.out (some l) 1 _ (by omega) HR0.out
  have hN2 : Hid (∀ (w' : World), Rd w' (w.heap.size + 1) r1 → Calls Tryd.prog 25 #[.pointer (some ⟨w.heap.size + 1, 0, none⟩), .int .i64 1] w' fun e w'' => e = .returned (.int .i64 many) ∧ Rd w'' (w.heap.size + 1) r2 ∧ w'.grownBy w'' (some (w.heap.size + 1))) := by
    intro w' h
    have := hN.out r1 1 w' (by omega) h
    rw [← hm1, ← hr2] at this
    exact this
  rw [← hu1, ← hr1] at hN1
  rw [← hu1] at hu
  rw [← hm1] at hml
  rw [← hu1, ← hr1, ← hm1, ← hr2]
  have HN1 := Lib.hid hN1
  clear hu1 hr1 hm1 hr2 hN1
  go_enter Tryd.func12, Tryd.ntmps12
  go_wp2_with fail
  refine HN1.out.mono ?_
  rintro e w1 ⟨rfl, hr1, hg1⟩
  have hb1 := Below.grown HB1.out hg1 (by simp; omega) (by intro k hk; obtain rfl := Option.some.inj hk; omega)
  have h1 := HH1.out.kept hg1 (by intro e; have := Option.some.inj e; omega)
  have ho1 := Has.alloc w1 [.int .i64 u, .slice none 0 0] 25
  have hr1' := hr1.below ((ba (Below.refl _ w1) (.cells #[.int .i64 u, .slice none 0 0] 25)).mono (by have := hr1.lt; omega))
  have hb2 := ba hb1 (.cells #[.int .i64 u, .slice none 0 0] 25)
  have h2 := h1.down (ba (Below.refl _ w1) (.cells #[.int .i64 u, .slice none 0 0] 25))
  have hO1 : w.heap.size + 1 < w1.heap.size := hr1.lt
  have HB2 := Lib.hid hb2; have HR1 := Lib.hid hr1'; have HO1 := Lib.hid ho1; have HH2 := Lib.hid h2
  clear hr1 hr1' hb2 ho1 h2 h1 hb1 hg1
  go_wp2_with fail
  refine (hN2.out _ HR1.out).mono ?_
  rintro e w2 ⟨rfl, hr2, hg2⟩
  have hO2 := HO1.out.kept hg2 (by intro e; have := Option.some.inj e; omega)
  have h2 := HH2.out.kept hg2 (by intro e; have := Option.some.inj e; omega)
  have hb2 : Below w.heap.size w w2 := HB2.out.trans (below_step hg2 (by omega) (by simp; omega))
  obtain ⟨O, hO⟩ : ∃ O, O = w1.heap.size := ⟨_, rfl⟩
  have hOs := hO2.2.2
  rw [← hO] at hO2 hOs hO1
  have HO := Lib.hid hO
  have HR2 := Lib.hid hr2; have HO2 := Lib.hid hO2; have HB2 := Lib.hid hb2; have HH2 := Lib.hid h2
  clear hg2 hO hr2 hO2 hb2 h2
  go_wp2_with fail
  rw [← HO.out]
  go_loopw [7] (fun _ wr => ∃ (acc : List Ent) (rest : Left) (v : Value), Rd wr (w.heap.size + 1) rest ∧ Has wr O [.int .i64 u, v] ∧ Has wr w.heap.size [.int .i64 0, .slice none 0 0] ∧ wr.ownsRow (O + 1) 56 6 v acc.length (ecells acc) ∧ Goes many r2 acc rest ∧ Below w.heap.size w wr) (fun _ wr => many - lenAt wr O)
  case atStart => exact ⟨[], r2, _, HR2.out, HO2.out, HH2.out, World.ownsRow_nil _ _ _ _, Goes.start _ _, HB2.out⟩
  case round =>
    obtain ⟨acc, rest, v, hr, ho, hh, hrow, hgo, hb⟩ := hrel
    obtain ⟨G, cp, rfl⟩ := SliceOf.own hrow
    have hle := hgo.1
    obtain ⟨o0, o1, p0, p1⟩ := ho.two
    have hlen := Lib.hid (lenAt_eq o1)
    obtain ⟨z0, z1, f0, f1⟩ := hh.two
    cases rest with
    | none =>
      have hans : Hid (ansV u (readES many r2) = ((0, []), 4)) := by unfold Hid ansV; rw [hgo.none]
      obtain ⟨rv, s0, s1, y0, y1, hRl⟩ := hr
      have HHH := Lib.hid hh; have HBB := Lib.hid hb
      by_cases hacc : acc.length < many
      all_goals
        clear hgo hrow hh hb ho hle
        go_wp2_with fail
        refine decode_out (by rw [hans.out]) ?_
        exact decode_end (R := w.heap.size) rfl rfl rfl ((HHH.out.set' (i := 0) (.int .i64 0) (by simp)).set' (i := 1) (.slice none 0 0) (by simp)) (ents_nil _) ((HBB.out.setCell (Nat.le_refl _) _).setCell (Nat.le_refl _) _)
    | some L =>
      have hRd := Lib.hid hr
      obtain ⟨ra, rc, ⟨s0, s1, y0, y1, hRl⟩, hrc, hrat, hrap, hrl⟩ := hr
      by_cases hacc : acc.length < many
      · have hmore := hgo.next hacc
        obtain ⟨kk, ff, uu, bb, tt, xx, q1, q2, q3, q4, q5, q6, e1, e2, e3, e4, e5, e6, eR⟩ := readE_parts L
        rw [eR] at hmore
        have hMORE := Lib.hid hmore
        have N1 : Hid (∀ w', Rd w' (w.heap.size + 1) (some L) → Calls Tryd.prog 25 #[.pointer (some ⟨w.heap.size + 1, 0, none⟩), .int .i64 1] w' fun e w'' => e = .returned (.int .i64 kk) ∧ Rd w'' (w.heap.size + 1) q1 ∧ w'.grownBy w'' (some (w.heap.size + 1))) := by
          intro w' h; have := hN.out (some L) 1 w' (by omega) h; rw [e1] at this; exact this
        have N2 : Hid (∀ w', Rd w' (w.heap.size + 1) q1 → Calls Tryd.prog 25 #[.pointer (some ⟨w.heap.size + 1, 0, none⟩), .int .i64 1] w' fun e w'' => e = .returned (.int .i64 ff) ∧ Rd w'' (w.heap.size + 1) q2 ∧ w'.grownBy w'' (some (w.heap.size + 1))) := by
          intro w' h; have := hN.out q1 1 w' (by omega) h; rw [e2] at this; exact this
        have N3 : Hid (∀ w', Rd w' (w.heap.size + 1) q2 → Calls Tryd.prog 25 #[.pointer (some ⟨w.heap.size + 1, 0, none⟩), .int .i64 3] w' fun e w'' => e = .returned (.int .i64 uu) ∧ Rd w'' (w.heap.size + 1) q3 ∧ w'.grownBy w'' (some (w.heap.size + 1))) := by
          intro w' h; have := hN.out q2 3 w' (by omega) h; rw [e3] at this; exact this
        have T1 : Hid (∀ w', Rd w' (w.heap.size + 1) q3 → Calls Tryd.prog 26 #[.pointer (some ⟨w.heap.size + 1, 0, none⟩)] w' fun e w'' => e = .returned (.string ⟨bb.toArray⟩) ∧ Rd w'' (w.heap.size + 1) q4 ∧ w'.grownBy w'' (some (w.heap.size + 1))) := by
          intro w' h; have := hT.out q3 w' h; rw [e4] at this; exact this
        have T2 : Hid (∀ w', Rd w' (w.heap.size + 1) q4 → Calls Tryd.prog 26 #[.pointer (some ⟨w.heap.size + 1, 0, none⟩)] w' fun e w'' => e = .returned (.string ⟨tt.toArray⟩) ∧ Rd w'' (w.heap.size + 1) q5 ∧ w'.grownBy w'' (some (w.heap.size + 1))) := by
          intro w' h; have := hT.out q4 w' h; rw [e5] at this; exact this
        have T3 : Hid (∀ w', Rd w' (w.heap.size + 1) q5 → Calls Tryd.prog 26 #[.pointer (some ⟨w.heap.size + 1, 0, none⟩)] w' fun e w'' => e = .returned (.string ⟨xx.toArray⟩) ∧ Rd w'' (w.heap.size + 1) q6 ∧ w'.grownBy w'' (some (w.heap.size + 1))) := by
          intro w' h; have := hT.out q5 w' h; rw [e6] at this; exact this
        have hOR : w.heap.size + 1 < O := hO1
        have HHH := Lib.hid hh; have HBB := Lib.hid hb; have HROW := Lib.hid hrow; have HOO := Lib.hid ho
        clear hgo hmore e1 e2 e3 e4 e5 e6 eR hh hb hrow ho hrat
        go_wp2_with fail
        refine (N1.out _ hRd.out).mono ?_
        rintro e w3 ⟨rfl, hr3, hg3⟩
        clear o0 o1 p0 p1 z0 z1 f0 f1 s0 s1 y0 y1
        go_wp2_with fail
        refine (N2.out _ hr3).mono ?_
        rintro e w4 ⟨rfl, hr4, hg4⟩
        go_wp2_with fail
        refine (N3.out _ hr4).mono ?_
        rintro e w5 ⟨rfl, hr5, hg5⟩
        have hg35 := Go.Lib.grownBy_trans (Go.Lib.grownBy_trans hg3 hg4) hg5
        have B5 := Lib.hid (HBB.out.trans (below_step hg35 (by omega) HBB.out.size))
        have R5 := Lib.hid (row_step HROW.out hg35 (by omega))
        have O5 := Lib.hid (HOO.out.kept hg35 (by intro e; have := Option.some.inj e; omega))
        have H5 := Lib.hid (HHH.out.kept hg35 (by intro e; have := Option.some.inj e; omega))
        clear HBB HROW HOO HHH hg35 hg3 hg4 hg5 hr3 hr4
        go_wp2_with fail
        have HsX : w.heap.size + 1 < w5.heap.size := hr5.lt
        have hOs5 : O < w5.heap.size := O5.out.2.2
        have hrA := hr5.below ((ba (Below.refl _ w5) (.cells #[.int .i64 kk, .string ⟨#[]⟩, .int .i64 uu, .int .i64 ff, .string ⟨#[]⟩, .string ⟨#[]⟩] 56)).mono (by omega))
        have X0 := Has.alloc w5 [.int .i64 kk, .string ⟨#[]⟩, .int .i64 uu, .int .i64 ff, .string ⟨#[]⟩, .string ⟨#[]⟩] 56
        have BA := ba B5.out (.cells #[.int .i64 kk, .string ⟨#[]⟩, .int .i64 uu, .int .i64 ff, .string ⟨#[]⟩, .string ⟨#[]⟩] 56)
        have RA := R5.out.alloc (.cells #[.int .i64 kk, .string ⟨#[]⟩, .int .i64 uu, .int .i64 ff, .string ⟨#[]⟩, .string ⟨#[]⟩] 56)
        have OA := O5.out.down (ba (Below.refl _ w5) (.cells #[.int .i64 kk, .string ⟨#[]⟩, .int .i64 uu, .int .i64 ff, .string ⟨#[]⟩, .string ⟨#[]⟩] 56))
        have HA := H5.out.down (ba (Below.refl _ w5) (.cells #[.int .i64 kk, .string ⟨#[]⟩, .int .i64 uu, .int .i64 ff, .string ⟨#[]⟩, .string ⟨#[]⟩] 56))
        have HBA := Lib.hid BA; have HRA := Lib.hid RA; have HOA := Lib.hid OA; have HHA := Lib.hid HA; have HX0 := Lib.hid X0
        have HNB : Hid ((Value.slice G acc.length cp).ownBlock ≠ some w5.heap.size) := fun e => Nat.lt_irrefl _ (R5.out.lt _ e).2
        clear BA RA OA HA X0 B5 R5 O5 H5 hr5
        refine (T1.out _ hrA).mono ?_
        rintro e w6 ⟨rfl, hr6, hg6⟩
        go_wp2_with fail
        refine (T2.out _ hr6).mono ?_
        rintro e w7 ⟨rfl, hr7, hg7⟩
        go_wp2_with fail
        refine (T3.out _ hr7).mono ?_
        rintro e w8 ⟨rfl, hr8, hg8⟩
        have hg68 := Go.Lib.grownBy_trans (Go.Lib.grownBy_trans hg6 hg7) hg8
        have hsz68 : w5.heap.size < w8.heap.size := by have := hg68.size; simp only [World.size_alloc] at this; omega
        have X8 := HX0.out.kept hg68 (by intro e; have := Option.some.inj e; omega)
        have B8 := HBA.out.trans (below_step hg68 (by omega) HBA.out.size)
        have R8 := row_step HRA.out hg68 (by omega)
        have O8 := HOA.out.kept hg68 (by intro e; have := Option.some.inj e; omega)
        have H8 := HHA.out.kept hg68 (by intro e; have := Option.some.inj e; omega)
        have hs9 : (((w8.setCell ⟨w5.heap.size, 1, none⟩ (.string ⟨bb.toArray⟩)).setCell ⟨w5.heap.size, 4, none⟩ (.string ⟨tt.toArray⟩)).setCell ⟨w5.heap.size, 5, none⟩ (.string ⟨xx.toArray⟩)).heap.size = w8.heap.size := by simp [World.setCell]
        have R9 : (((w8.setCell ⟨w5.heap.size, 1, none⟩ (.string ⟨bb.toArray⟩)).setCell ⟨w5.heap.size, 4, none⟩ (.string ⟨tt.toArray⟩)).setCell ⟨w5.heap.size, 5, none⟩ (.string ⟨xx.toArray⟩)).ownsRow (O + 1) 56 6 (.slice G acc.length cp) acc.length (ecells acc) := row_off (row_off (row_off R8 HNB.out 1 _) HNB.out 4 _) HNB.out 5 _
        have NW : ∀ j u, ([.int .i64 kk, .string ⟨bb.toArray⟩, .int .i64 uu, .int .i64 ff, .string ⟨tt.toArray⟩, .string ⟨xx.toArray⟩] : List Value)[j]? = some u → ((((w8.setCell ⟨w5.heap.size, 1, none⟩ (.string ⟨bb.toArray⟩)).setCell ⟨w5.heap.size, 4, none⟩ (.string ⟨tt.toArray⟩)).setCell ⟨w5.heap.size, 5, none⟩ (.string ⟨xx.toArray⟩)).alloc (.cells #[.int .i64 kk, .string ⟨bb.toArray⟩, .int .i64 uu, .int .i64 ff, .string ⟨tt.toArray⟩, .string ⟨xx.toArray⟩] 56)).cell? (Addr.add ⟨w8.heap.size, 0, none⟩ j) = some u := by
          rw [← hs9]
          exact World.news_of_block (cs := #[.int .i64 kk, .string ⟨bb.toArray⟩, .int .i64 uu, .int .i64 ff, .string ⟨tt.toArray⟩, .string ⟨xx.toArray⟩]) (t := 56) (fr := (0, 0)) (heap_alloc_new _ _)
        have O9 := (((O8.else' (show O ≠ w5.heap.size by omega) (i := 1) (.string ⟨bb.toArray⟩)).else' (show O ≠ w5.heap.size by omega) (i := 4) (.string ⟨tt.toArray⟩)).else' (show O ≠ w5.heap.size by omega) (i := 5) (.string ⟨xx.toArray⟩)).down (ba (Below.refl _ _) (.cells #[.int .i64 kk, .string ⟨bb.toArray⟩, .int .i64 uu, .int .i64 ff, .string ⟨tt.toArray⟩, .string ⟨xx.toArray⟩] 56))
        have H9 := (((H8.else' (show w.heap.size ≠ w5.heap.size by omega) (i := 1) (.string ⟨bb.toArray⟩)).else' (show w.heap.size ≠ w5.heap.size by omega) (i := 4) (.string ⟨tt.toArray⟩)).else' (show w.heap.size ≠ w5.heap.size by omega) (i := 5) (.string ⟨xx.toArray⟩)).down (ba (Below.refl _ _) (.cells #[.int .i64 kk, .string ⟨bb.toArray⟩, .int .i64 uu, .int .i64 ff, .string ⟨tt.toArray⟩, .string ⟨xx.toArray⟩] 56))
        have B9 := ba (((B8.setCell (p := ⟨w5.heap.size, 1, none⟩) (by show w.heap.size ≤ w5.heap.size; omega) (.string ⟨bb.toArray⟩)).setCell (p := ⟨w5.heap.size, 4, none⟩) (by show w.heap.size ≤ w5.heap.size; omega) (.string ⟨tt.toArray⟩)).setCell (p := ⟨w5.heap.size, 5, none⟩) (by show w.heap.size ≤ w5.heap.size; omega) (.string ⟨xx.toArray⟩)) (.cells #[.int .i64 kk, .string ⟨bb.toArray⟩, .int .i64 uu, .int .i64 ff, .string ⟨tt.toArray⟩, .string ⟨xx.toArray⟩] 56)
        have Q9 : Below (w.heap.size + 2) w8 ((((w8.setCell ⟨w5.heap.size, 1, none⟩ (.string ⟨bb.toArray⟩)).setCell ⟨w5.heap.size, 4, none⟩ (.string ⟨tt.toArray⟩)).setCell ⟨w5.heap.size, 5, none⟩ (.string ⟨xx.toArray⟩)).alloc (.cells #[.int .i64 kk, .string ⟨bb.toArray⟩, .int .i64 uu, .int .i64 ff, .string ⟨tt.toArray⟩, .string ⟨xx.toArray⟩] 56)) := (((((Below.refl _ w8).setCell (p := ⟨w5.heap.size, 1, none⟩) (by show w.heap.size + 2 ≤ w5.heap.size; omega) (.string ⟨bb.toArray⟩)).setCell (p := ⟨w5.heap.size, 4, none⟩) (by show w.heap.size + 2 ≤ w5.heap.size; omega) (.string ⟨tt.toArray⟩)).setCell (p := ⟨w5.heap.size, 5, none⟩) (by show w.heap.size + 2 ≤ w5.heap.size; omega) (.string ⟨xx.toArray⟩))).alloc (by rw [hs9]; omega) _
        have HNW := Lib.hid NW; have HR9 := Lib.hid R9; have HO9 := Lib.hid O9; have HH9 := Lib.hid H9; have HB9 := Lib.hid B9; have HRd8 := Lib.hid hr8; have HQ9 := Lib.hid Q9
        clear HBA HRA HOA HHA HX0 hg68 hg6 hg7 hg8 hr6 hr7 hr8 hrA B8 R8 H8 hs9 R9 NW O9 H9 B9 Q9
        obtain ⟨o0, o1, p0, p1⟩ := O8.two
        obtain ⟨d0, d1, d2, d3, d4, d5⟩ := X8.six
        obtain ⟨f0, f1, f2, f3, f4, f5⟩ := X8.six_free
        clear O8 X8
        go_wp2_with (at_builtin; refine wpList_append_lies _ (by rfl) _ _ _ (by rfl) (O + 1) 56 i0 _ 6 72 Tryd.underlying23 HI.out HZ0.out HZ1.out HZ2.out rfl (by omega) (.slice G acc.length cp) acc.length (ecells acc) (by rfl) (HR9.out.alloc _) ⟨w8.heap.size, 0, none⟩ 1 1 [.int .i64 kk, .string ⟨bb.toArray⟩, .int .i64 uu, .int .i64 ff, .string ⟨tt.toArray⟩, .string ⟨xx.toArray⟩] (by rfl) (by rfl) HNW.out (by simp [Value.oneCell']) (by omega) (by unfold maxLen; omega) (by omega) (by simp [World.setCell]; omega) (w8.heap.size + 1) (by simp [World.setCell]) ?_)
        intro g cap3 w9 hown9 hgrow hat hlt9
        have hap := row_apart (HR9.out.alloc (.cells #[.int .i64 kk, .string ⟨bb.toArray⟩, .int .i64 uu, .int .i64 ff, .string ⟨tt.toArray⟩, .string ⟨xx.toArray⟩] 56)) (show O < O + 1 by omega)
        have hap2 := row_apart (HR9.out.alloc (.cells #[.int .i64 kk, .string ⟨bb.toArray⟩, .int .i64 uu, .int .i64 ff, .string ⟨tt.toArray⟩, .string ⟨xx.toArray⟩] 56)) (show w.heap.size < O + 1 by omega)
        have O10 := HO9.out.kept hgrow hap
        have H10 := HH9.out.kept hgrow hap2
        have B10 := below_row HB9.out (Nat.le_refl _) (HR9.out.alloc (.cells #[.int .i64 kk, .string ⟨bb.toArray⟩, .int .i64 uu, .int .i64 ff, .string ⟨tt.toArray⟩, .string ⟨xx.toArray⟩] 56)) (by omega) hgrow
        have Q10 : Below (w.heap.size + 2) w8 w9 := below_row HQ9.out (by omega) (HR9.out.alloc (.cells #[.int .i64 kk, .string ⟨bb.toArray⟩, .int .i64 uu, .int .i64 ff, .string ⟨tt.toArray⟩, .string ⟨xx.toArray⟩] 56)) (by omega) hgrow
        obtain ⟨t0, t1, t2, t3⟩ := O10.two
        have HO10 := Lib.hid O10; have HH10 := Lib.hid H10; have HB10 := Lib.hid B10; have HQ10 := Lib.hid Q10; have HOWN := Lib.hid hown9
        clear hgrow hat hap hap2 O10 H10 B10 Q10 hown9 o0 o1 p0 p1 d0 d1 d2 d3 d4 d5 f0 f1 f2 f3 f4 f5
        go_wp2_with fail
        go_roundw
        case rel =>
          refine ⟨acc ++ [⟨kk, ff, uu, bb, tt, xx⟩], q6, .slice (some ⟨g, 0, none⟩) (acc.length + 1) cap3, HRd8.out.below (HQ10.out.setCell (p := ⟨O, 1, none⟩) (by show w.heap.size + 2 ≤ O; omega) _), HO10.out.set' (i := 1) _ (by simp), HH10.out.else' (by omega) _, ?_, hMORE.out, HB10.out.setCell (p := ⟨O, 1, none⟩) (by show w.heap.size ≤ O; omega) _⟩
          rw [ecells_snoc, List.length_append]
          exact row_else HOWN.out (by omega) 1 _
        case measure =>
          rw [hlen.out, lenAt_eq (HO10.out.set' (i := 1) (.slice (some ⟨g, 0, none⟩) (acc.length + 1) cap3) (by simp)).two.2.1]
          omega
      · have haccm : acc.length = many := by omega
        have hlast := hgo.last haccm
        have HHH := Lib.hid hh; have HBB := Lib.hid hb; have HROW := Lib.hid hrow; have HOO := Lib.hid ho
        clear hgo hrow hh hb ho hle
        cases L with
        | cons c L' =>
          have hans : Hid (ansV u (readES many r2) = ((0, []), 3)) := by unfold Hid ansV; rw [hlast]
          clear hlast haccm hrat
          have hpos : 0 < (c :: L').length := by simp
          generalize (c :: L').length = LL at s0 hrc hrl hpos
          go_wp2_with fail
          refine decode_out (by rw [hans.out]) ?_
          exact decode_end (R := w.heap.size) rfl rfl rfl ((HHH.out.set' (i := 0) (.int .i64 0) (by simp)).set' (i := 1) (.slice none 0 0) (by simp)) (ents_nil _) ((HBB.out.setCell (Nat.le_refl _) _).setCell (Nat.le_refl _) _)
        | nil =>
          have hfit : Hid (∀ x ∈ acc, Fits x) := by
            have := readES_fits (show (readES many r2).2 = some [] by rw [hlast])
            rw [hlast] at this
            exact this.2
          have hans : Hid (ansV u (readES many r2) = if bcheckV u acc = 0 then ((u, acc), 0) else ((0, []), bcheckV u acc)) := by unfold Hid ansV; rw [hlast]
          have hEA : Hid (EntsAt wr (.slice G acc.length cp) acc) := EntsAt.of_row HROW.out
          have hC := Lib.hid (bcheck_any u acc (.slice G acc.length cp) m wr hEA.out hfit.out (by omega) (by omega) (moved HM.out HBB.out (Nat.le_refl _)))
          clear hlast hrat haccm hlen
          change wr.cell? ⟨w.heap.size + 1, 0, none⟩ = some (.slice ra 0 rc) at s0
          go_wp2_with fail
          refine hC.out.mono ?_
          rintro e w3 ⟨rfl, hb3⟩
          have hh3 := HHH.out.down hb3
          have hb3' := bt HBB.out hb3
          have ho3 := HOO.out.down hb3
          have hrow3 := row_down HROW.out hb3
          clear o0 o1 p0 p1 z0 z1 f0 f1 s0 s1 y0 y1
          obtain ⟨o0, o1, p0, p1⟩ := ho3.two
          obtain ⟨z0, z1, f0, f1⟩ := hh3.two
          have HH3 := Lib.hid hh3; have HB3 := Lib.hid hb3'; have HROW3 := Lib.hid hrow3; have HO3 := Lib.hid ho3
          clear hh3 hb3' hb3 ho3 hrow3
          by_cases hz : bcheckV u acc = 0
          · have hans2 : Hid (ansV u (readES many r2) = ((u, acc), 0)) := by unfold Hid; rw [hans.out, if_pos hz]
            clear hans
            go_wp2_with fail
            refine decode_out (by rw [hans2.out]) ?_
            exact decode_end (R := w.heap.size) rfl rfl rfl ((HH3.out.set' (i := 0) (.int .i64 u) (by simp)).set' (i := 1) (.slice G acc.length cp) (by simp)) (EntsAt.of_row (row_else (row_else HROW3.out (by omega) 0 _) (by omega) 1 _)) ((HB3.out.setCell (Nat.le_refl _) _).setCell (Nat.le_refl _) _)
          · have hans2 : Hid (ansV u (readES many r2) = ((0, []), bcheckV u acc)) := by unfold Hid; rw [hans.out, if_neg hz]
            clear hans
            go_wp2_with fail
            refine decode_out (by rw [hans2.out]) ?_
            exact decode_end (R := w.heap.size) rfl rfl rfl ((HH3.out.set' (i := 0) (.int .i64 0) (by simp)).set' (i := 1) (.slice none 0 0) (by simp)) (ents_nil _) ((HB3.out.setCell (Nat.le_refl _) _).setCell (Nat.le_refl _) _)
end Go.Proofs.YtdobigkhilimlaaDoor
