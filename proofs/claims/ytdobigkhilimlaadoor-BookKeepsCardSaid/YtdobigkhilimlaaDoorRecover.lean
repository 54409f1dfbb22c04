/-
  DERIVED. 'Recover' of book: the walk.
-/
import Derived.Test.YtdobigkhilimlaaDoorTapes
import Derived.Test.YtdobigkhilimlaaDoorBats
import Derived.Test.YtdobigkhilimlaaDoorDecB
namespace Go.Proofs.YtdobigkhilimlaaDoor
open Go.RowKit

/-- what is recovered -/
def RecPost (l : List UInt8) (s : Int) (w : World) (e : Ending) (w' : World) : Prop :=
  (∃ bs rest v tv, e = .returned (.tuple #[v, tv, .int .i64 0]) ∧ Rec l bs rest ∧ BatsAt w' v bs ∧ TapeAt w' tv (tapeL bs) (min s ((tapeL bs).length : Int))) ∧ Below w.heap.size w w'
theorem recover_end {R : Nat} {s at' : Int} {u v : Value} {l rest : List UInt8} {bs : List Bat} {a : Act} {W w : World} (ht2 : a.tmps.getD 2 undef = v) (ht : a.tmps.getD 3 undef = .pointer (some ⟨R, 0, none⟩)) (ht4 : a.tmps.getD 4 undef = .int .i64 0) (hd : a.defers = [])
    (h : Has W R [u, .int .i64 at']) (he : Bytes W u (tapeL bs)) (hs : at' = min s ((tapeL bs).length : Int)) (hr : Rec l bs rest) (hbs : BatsAt W v bs) (hb : Below w.heap.size w W) :
    bodyPost Tryd.prog Tryd.f18 (RecPost l s w) .ret a W := by
  obtain ⟨c0, c1, _, _⟩ := h.two
  subst hs
  refine bodyPost_ret (v := .tuple #[v, .agg #[u, .int .i64 (min s ((tapeL bs).length : Int))], .int .i64 0]) ?_ hd ⟨⟨bs, rest, v, _, rfl, hr, hbs, u, rfl, he⟩, hb⟩
  have ht2' : a.tmps[2]?.getD undef = v := by simpa using ht2
  have ht' : a.tmps[3]?.getD undef = .pointer (some ⟨R, 0, none⟩) := by simpa using ht
  have ht4' : a.tmps[4]?.getD undef = .int .i64 0 := by simpa using ht4
  simp [results, Tryd.results18, go_sem, ht2', ht', ht4', c0, c1]
theorem tape_count : ∀ bs : List Bat, bs.length ≤ (tapeL bs).length
  | [] => Nat.zero_le _
  | b :: l => by
    have h1 := tape_count l
    have h2 := frameL_pos b
    rw [tapeL_cons, List.length_append, List.length_cons]
    omega
theorem step_parts (rest : List UInt8) : ∃ (k3 : Nat) (q1 : Left) (f : List UInt8) (q2 : Left), numL 3 (some rest) = (k3, q1) ∧ takeL k3 q1 = (f, q2) ∧ k3 < 16777216 ∧ f.length ≤ rest.length ∧
    stepL rest = (match q2 with | none => none | some r => if (decodeV f).2 = 0 then some ((decodeV f).1, r) else none) := by
  refine ⟨_, _, _, _, rfl, rfl, ?_, ?_, rfl⟩
  · have h := takeL_len 3 (some rest)
    have h2 := numV_lt (takeL 3 (some rest)).1.length (takeL 3 (some rest)).1 rfl
    have hp : 256 ^ (takeL 3 (some rest)).1.length ≤ 256 ^ 3 := Nat.pow_le_pow_right (by omega) h
    have : (256 : Nat) ^ 3 = 16777216 := by decide
    show numV (takeL 3 (some rest)).1 < 16777216
    omega
  · show (takeL (numL 3 (some rest)).1 (takeL 3 (some rest)).2).1.length ≤ rest.length
    have e : ∀ n (r : Left) (M : Nat), (match r with | none => True | some l => l.length ≤ M) → (takeL n r).1.length ≤ M ∧ (match (takeL n r).2 with | none => True | some l => l.length ≤ M) := by
      intro n r M h
      cases r with
      | none => exact ⟨Nat.zero_le _, trivial⟩
      | some l =>
        show (if l.length < n then (([], none) : List UInt8 × Left) else (l.take n, some (l.drop n))).1.length ≤ M ∧ _
        by_cases hl : l.length < n
        · have : takeL n (some l) = ([], none) := take_short n l hl
          rw [this, if_pos hl]; exact ⟨Nat.zero_le _, trivial⟩
        · have : takeL n (some l) = (l.take n, some (l.drop n)) := by show (if l.length < n then (([], none) : List UInt8 × Left) else (l.take n, some (l.drop n))) = _; rw [if_neg hl]
          rw [this, if_neg hl]
          have h' : l.length ≤ M := h
          exact ⟨by rw [List.length_take]; omega, by show (l.drop n).length ≤ M; rw [List.length_drop]; omega⟩
    have h1 := (e 3 (some rest) rest.length (Nat.le_refl _)).2
    exact (e _ _ rest.length h1).1
theorem tapeL_snoc (bs : List Bat) (b : Bat) : tapeL (bs ++ [b]) = tapeL bs ++ frameL b := by rw [tapeL_append, tapeL_one]

set_option maxHeartbeats 4000000 in
set_option maxRecDepth 20000 in
theorem recover_any (tv : Value) (l : List UInt8) (s : Int) (m : Int) (w : World) (h : TapeAt w tv l s) (hm : MayT l s) (hmx : w.cell? ⟨0, 0, none⟩ = some (.int .i64 m)) :
    Calls Tryd.prog 18 #[tv] w (RecPost l s w) := by
  obtain ⟨i0, hi, hz0, hz1, hz2⟩ := info_parts infoBat
  have HI := Lib.hid hi; have HZ0 := Lib.hid hz0; have HZ1 := Lib.hid hz1; have HZ2 := Lib.hid hz2
  clear hi hz0 hz1 hz2
  have hO : Hid (Opens l s tv w) := opens_of h hm
  have hl := hm.2.2
  have hs0 := hm.1
  have hsl := hm.2.1
  obtain ⟨u, rfl, a, cap, rfl, hcap, _⟩ := h
  have hb1 := ba (ba (Below.refl _ w) (.cells #[.slice a l.length cap, .int .i64 s] 42)) (.cells #[.slice none 0 0, .int .i64 0] 42)
  have h2 := Has.alloc (w.alloc (.cells #[.slice a l.length cap, .int .i64 s] 42)) [.slice none 0 0, .int .i64 0] 42
  simp only [World.size_alloc] at h2
  have HB1 := Lib.hid hb1; have H2 := Lib.hid h2; have HM := Lib.hid hmx
  clear h2 hm hb1 hmx
  go_enter Tryd.func18, Tryd.ntmps18
  go_wp2_with fail
  refine (hO.out _ HB1.out).mono ?_
  rintro e w1 ⟨⟨v, rfl, ho⟩, hb1⟩
  obtain ⟨G, cp, rfl⟩ := SliceOf.own ho
  have hG : (G = none ∧ l = [] ∧ cp = 0) ∨ ∃ gD, G = some ⟨gD, 0, none⟩ ∧ l.length ≤ cp ∧ gD < w1.heap.size := by
    rcases ho.2 with ⟨h, h0⟩ | ⟨g, cap, cur, h, _, hg, hc, _⟩
    · obtain ⟨e1, e2, e3⟩ : G = none ∧ l.length = 0 ∧ cp = 0 := by simpa using h
      exact .inl ⟨e1, List.eq_nil_of_length_eq_zero e2, e3⟩
    · obtain ⟨e1, e3⟩ : G = some ⟨g, 0, none⟩ ∧ cp = cap := by simpa using h
      subst e3
      exact .inr ⟨g, e1, hc, (Array.getElem?_eq_some_iff.1 hg).1⟩
  have hGA : ∀ x, G = some x → x.block < w1.heap.size := fun x hx => (ho.lt x.block (by rw [hx]; rfl)).2
  have HD : Hid (OwnB (w1.alloc (.cells #[.slice G l.length cp, .int .i64 s] 42)) (w.heap.size + 2) 5 (.slice G l.length cp) l) := row_base (by simp) (ho.alloc _)
  have HX := Lib.hid (Has.alloc w1 [.slice G l.length cp, .int .i64 s] 42)
  have HR := Lib.hid ((H2.out.down hb1).down (ba (Below.refl _ w1) (.cells #[.slice G l.length cp, .int .i64 s] 42)))
  have HB2 := Lib.hid (ba (bt HB1.out hb1) (.cells #[.slice G l.length cp, .int .i64 s] 42))
  have hRX : w.heap.size + 1 < w1.heap.size := (H2.out.down hb1).2.2
  clear ho hb1 H2
  go_wp2_with fail
  obtain ⟨X, hX⟩ : ∃ X, X = w1.heap.size := ⟨_, rfl⟩
  have HXX := Lib.hid hX
  go_loopw [7, 8] (fun v7 at' wr => ∃ (ps : List BV) (rest : List UInt8), l = tapeL (ps.map Prod.fst) ++ rest ∧ (∀ b ∈ ps.map Prod.fst, GoodB b) ∧ at' = .int .i64 (tapeL (ps.map Prod.fst)).length ∧ BRow wr (w1.heap.size + 1) v7 ps ∧ Has wr w1.heap.size [.slice G l.length cp, .int .i64 s] ∧ Has wr (w.heap.size + 1) [.slice none 0 0, .int .i64 0] ∧ OwnB wr (w.heap.size + 2) 5 (.slice G l.length cp) l ∧ Below w.heap.size w wr ∧ w1.heap.size < wr.heap.size) (fun _ at' _ => l.length - (intOf at').toNat)
  case atStart => exact ⟨[], l, rfl, (fun b hb => by cases hb), rfl, BRow.nil _ _, HX.out, HR.out, HD.out, HB2.out, by simp⟩
  case round =>
    obtain ⟨ps, rest, hsp, hgood, rfl, hrow, hx, hr, hdat, hbel, hwsz⟩ := hrel
    obtain ⟨bs, hbs⟩ : ∃ bs, bs = ps.map Prod.fst := ⟨_, rfl⟩
    rw [← hbs] at hsp hgood ⊢
    have hlen : l.length = (tapeL bs).length + rest.length := by rw [hsp, List.length_append]
    obtain ⟨T, hT⟩ : ∃ T, T = (tapeL bs).length := ⟨_, rfl⟩
    rw [← hT] at hlen ⊢
    have HLEN := Lib.hid hlen
    have hTl : T ≤ l.length := by omega
    have hlc : l.length ≤ cp := by
      rcases hG with ⟨_, h, _⟩ | ⟨gD, _, h, _⟩
      · rw [h]; exact Nat.zero_le _
      · exact h
    have hTc : T ≤ cp := by omega
    have hN : Hid (∀ (b : Nat) (r : Left) (k : Nat) (w : World), k ≤ 3 → Rd w b r → Calls Tryd.prog 25 #[.pointer (some ⟨b, 0, none⟩), .int .i64 k] w fun e w' => e = .returned (.int .i64 (numL k r).1) ∧ Rd w' b (numL k r).2 ∧ w.grownBy w' (some b)) := number_any
    have hTk : Hid (∀ (b : Nat) (r : Left) (n : Nat) (w : World), n ≤ 100000000 → Rd w b r → Calls Tryd.prog 29 #[.pointer (some ⟨b, 0, none⟩), .int .i64 n] w fun e w' => (∃ v, e = .returned v ∧ Bytes w' v (takeL n r).1) ∧ Rd w' b (takeL n r).2 ∧ w.grownBy w' (some b)) := take_any
    obtain ⟨c0, c1, p0, p1⟩ := hx.two
    obtain ⟨d0, d1, q0, q1⟩ := hr.two
    have HSP := Lib.hid hsp; have HGOOD := Lib.hid hgood; have HTT := Lib.hid hT; have HBS := Lib.hid hbs
    have HROW := Lib.hid hrow; have HXW := Lib.hid hx; have HRW := Lib.hid hr; have HDAT := Lib.hid hdat; have HBEL := Lib.hid hbel
    clear hsp hgood hT hbs hrow hx hr hdat hbel
    by_cases hcp : cp = T
    · have hrest : rest = [] := by
        rcases hG with ⟨_, h, _⟩ | ⟨gD, _, h, _⟩
        · subst h; exact List.eq_nil_of_length_eq_zero (by simp at hlen; omega)
        · exact List.eq_nil_of_length_eq_zero (by omega)
      subst hrest
      have hap : Apart G wr.heap.size := fun x hx => Nat.lt_trans (hGA x hx) hwsz
      have hRd : Rd (wr.alloc (.cells #[.slice G 0 0, .bool false] 61)) wr.heap.size (some []) := ⟨G, 0, Pair.alloc wr _ _ _, Nat.le_refl _, (fun i c h => by simp at h), hap, by simp⟩
      have hn1 := hN.out wr.heap.size (some []) 3 _ (by omega) hRd
      rw [num_short 3 [] (by decide)] at hn1
      have HN1 := Lib.hid hn1
      have hsk : Hid (stepL [] = none) := stepL_nil
      have hA := Lib.hid (ba (Below.refl wr.heap.size wr) (.cells #[.slice G 0 0, .bool false] 61))
      clear hn1 hRd hap
      go_wp2_with fail
      refine HN1.out.mono ?_
      rintro e w2 ⟨rfl, hr2, hg2⟩
      go_wp2_with fail
      refine (hTk.out wr.heap.size none 0 _ (by omega) hr2).mono ?_
      rintro e w3 ⟨⟨vF, rfl, hvF⟩, hr3, hg3⟩
      have hg23 := Go.Lib.grownBy_trans hg2 hg3
      obtain ⟨rv, s0, s1, y0, y1, _⟩ := hr3
      obtain ⟨aF, cF, rfl, _⟩ := hvF
      have hX3 := (HXW.out.down hA.out).kept hg23 (by intro e; have := Option.some.inj e; omega)
      have hR3 := (HRW.out.down hA.out).kept hg23 (by intro e; have := Option.some.inj e; omega)
      have hbd := below_step hg23 (Nat.le_refl wr.heap.size) hA.out.size
      have hd3 := hA.out.trans hbd
      have HROW3 := Lib.hid (HROW.out.down hd3); have HDAT3 := Lib.hid (row_down HDAT.out hd3); have HBEL3 := Lib.hid (bt HBEL.out hd3)
      obtain ⟨c0', c1', _, _⟩ := hX3.two
      obtain ⟨d0', d1', q0', q1'⟩ := hR3.two
      have HX3 := Lib.hid hX3; have HR3 := Lib.hid hR3
      clear hg2 hg3 hg23 hr2 hX3 hR3 hbd hd3 c0 c1 p0 p1 d0 d1 q0 q1
      go_wp2_with fail
      clear hlen
      go_region
      go_wp2_with fail
      have hR4 := HR3.out.set' (i := 0) (.slice G T T) (by simp)
      have hT2 := HTT.out
      obtain ⟨W4, hW4⟩ : ∃ W4, W4 = (w3.setCell ⟨w.heap.size + 1, 0, none⟩ (.slice G T T)).setCell ⟨w.heap.size + 1, 1, none⟩ (.int .i64 (min s T)) := ⟨_, rfl⟩
      have hdr := Below.drew (Below.refl W4.heap.size W4)
      have k1 : Has W4 (w.heap.size + 1) [.slice G T T, .int .i64 (min s T)] := by rw [hW4]; exact hR4.set' (i := 1) (.int .i64 (min s T)) (by simp)
      have k2 : Bytes W4 (.slice G T T) (tapeL bs) := by
        have h1 := OwnB.bytes (row_else (row_else HDAT3.out (show w.heap.size + 1 < w.heap.size + 2 by omega) 0 (.slice G T T)) (show w.heap.size + 1 < w.heap.size + 2 by omega) 1 (.int .i64 (min s T)))
        have h2 := bytes_cut T h1 (by have := HLEN.out; omega)
        have h3 : l.take T = tapeL bs := by
          have := HSP.out
          rw [this, hT2, List.take_left]
        rw [h3] at h2
        rw [hW4]; exact h2
      have k3 : BatsAt W4 u7 bs := by
        rw [HBS.out, hW4]
        refine BRow.bats (base := w1.heap.size + 1) (BRow.set (BRow.set HROW3.out (by omega) (fun s' e => ?_)) (by omega) (fun s' e => ?_))
        · rw [HR3.out.two.2.1] at e; cases e
        · rw [hR4.two.2.1] at e; cases e
      have k4 : Below w.heap.size w W4 := by
        rw [hW4]
        exact (HBEL3.out.setCell (p := ⟨w.heap.size + 1, 0, none⟩) (by show w.heap.size ≤ w.heap.size + 1; omega) _).setCell (p := ⟨w.heap.size + 1, 1, none⟩) (by show w.heap.size ≤ w.heap.size + 1; omega) _
      rw [← hW4]
      exact recover_end (R := w.heap.size + 1) (bs := bs) (rest := []) rfl rfl rfl rfl (k1.down hdr) (k2.down hdr) (by rw [hT2]) ⟨HSP.out, HGOOD.out, hsk.out⟩ (k3.down hdr) (bt k4 hdr)
    · obtain ⟨gD, rfl, hgD⟩ : ∃ gD, G = some ⟨gD, 0, none⟩ ∧ gD < w1.heap.size := by
        rcases hG with ⟨_, h, h0⟩ | ⟨gD, h, _, hg⟩
        · subst h; simp at hTl; omega
        · exact ⟨gD, h, hg⟩
      have hTc2 : T < cp := by omega
      obtain ⟨nr, hnr⟩ : ∃ nr, nr = rest.length := ⟨_, rfl⟩
      have hln : l.length - T = nr := by omega
      have hRd : Rd (wr.alloc (.cells #[.slice (some ⟨gD, T, none⟩) nr (cp - T), .bool false] 61)) wr.heap.size (some rest) := by
        have hat : BytesAt wr (some ⟨gD, T, none⟩) rest := by
          obtain ⟨a', c', h1, _, h2, _⟩ := HDAT.out.bytes
          cases h1
          have h3 := bytesAt_drop h2 T
          have h4 : l.drop T = rest := by
            have h5 := HSP.out
            rw [h5, HTT.out, List.drop_left]
          rw [h4] at h3
          simpa [Addr.add_lit] using h3
        rw [hnr]
        refine ⟨some ⟨gD, T, none⟩, cp - T, Pair.alloc wr _ _ _, by omega, fun i c hi => ?_, fun x hx => ?_, by omega⟩
        · obtain ⟨g, off, h1, h2, h3⟩ := hat i c hi
          exact ⟨g, off, h1, by simp; omega, Lib.cell?_alloc_some _ h3⟩
        · obtain rfl := Option.some.inj hx
          show gD < wr.heap.size
          omega
      obtain ⟨k3, qa, f, qb, e1, e2, hk3, hfl, hst⟩ := step_parts rest
      have hn1 := hN.out wr.heap.size (some rest) 3 _ (by omega) hRd
      rw [e1] at hn1
      have HN1 := Lib.hid hn1
      have HT1 : Hid (∀ w, Rd w wr.heap.size qa → Calls Tryd.prog 29 #[.pointer (some ⟨wr.heap.size, 0, none⟩), .int .i64 k3] w fun e w' => (∃ v, e = .returned v ∧ Bytes w' v f) ∧ Rd w' wr.heap.size qb ∧ w.grownBy w' (some wr.heap.size)) := by
        intro w h
        have := hTk.out wr.heap.size qa k3 w (by omega) h
        rw [e2] at this
        exact this
      have hfl2 : f.length ≤ 100000 := by omega
      have HST := Lib.hid hst; have HLN := Lib.hid hln; have HNR := Lib.hid hnr
      have hA := Lib.hid (ba (Below.refl wr.heap.size wr) (.cells #[.slice (some ⟨gD, T, none⟩) nr (cp - T), .bool false] 61))
      clear hn1 hRd e1 e2 hst hln hnr hfl hlen
      go_wp2_with fail
      rw [HLN.out]
      refine HN1.out.mono ?_
      rintro e w2 ⟨rfl, hr2, hg2⟩
      clear c0 c1 p0 p1 d0 d1 q0 q1
      go_wp2_with fail
      refine (HT1.out _ hr2).mono ?_
      rintro e w3 ⟨⟨vF, rfl, hvF⟩, hr3, hg3⟩
      have hg23 := Go.Lib.grownBy_trans hg2 hg3
      have HVF := Lib.hid hvF
      obtain ⟨aF, cF, rfl, _⟩ := hvF
      have hX3 := (HXW.out.down hA.out).kept hg23 (by intro e; have := Option.some.inj e; omega)
      have hR3 := (HRW.out.down hA.out).kept hg23 (by intro e; have := Option.some.inj e; omega)
      have hbd := below_step hg23 (Nat.le_refl wr.heap.size) hA.out.size
      have hd3 := hA.out.trans hbd
      have hws3 := hd3.size
      have HROW3 := Lib.hid (HROW.out.down hd3); have HDAT3 := Lib.hid (row_down HDAT.out hd3); have HBEL3 := Lib.hid (bt HBEL.out hd3)
      obtain ⟨c0', c1', _, _⟩ := hX3.two
      obtain ⟨d0', d1', q0', q1'⟩ := hR3.two
      have HX3 := Lib.hid hX3; have HR3 := Lib.hid hR3
      clear hg2 hg3 hg23 hr2 hX3 hR3 hbd hd3
      cases qb with
      | none =>
        have hsk : Hid (stepL rest = none) := HST.out
        obtain ⟨rv, s0, s1, y0, y1, _⟩ := hr3
        go_wp2_with fail
        go_region
        go_wp2_with fail
        have hR4 := HR3.out.set' (i := 0) (.slice (some ⟨gD, 0, none⟩) T T) (by simp)
        have hT2 := HTT.out
        obtain ⟨W4, hW4⟩ : ∃ W4, W4 = (w3.setCell ⟨w.heap.size + 1, 0, none⟩ (.slice (some ⟨gD, 0, none⟩) T T)).setCell ⟨w.heap.size + 1, 1, none⟩ (.int .i64 (min s T)) := ⟨_, rfl⟩
        have hdr := Below.drew (Below.refl W4.heap.size W4)
        have k1 : Has W4 (w.heap.size + 1) [.slice (some ⟨gD, 0, none⟩) T T, .int .i64 (min s T)] := by rw [hW4]; exact hR4.set' (i := 1) (.int .i64 (min s T)) (by simp)
        have k2 : Bytes W4 (.slice (some ⟨gD, 0, none⟩) T T) (tapeL bs) := by
          have h1 := OwnB.bytes (row_else (row_else HDAT3.out (show w.heap.size + 1 < w.heap.size + 2 by omega) 0 (.slice (some ⟨gD, 0, none⟩) T T)) (show w.heap.size + 1 < w.heap.size + 2 by omega) 1 (.int .i64 (min s T)))
          have h2 := bytes_cut T h1 (by have := HLEN.out; omega)
          have h3 : l.take T = tapeL bs := by
            have := HSP.out
            rw [this, hT2, List.take_left]
          rw [h3] at h2
          rw [hW4]; exact h2
        have k3 : BatsAt W4 u7 bs := by
          rw [HBS.out, hW4]
          refine BRow.bats (base := w1.heap.size + 1) (BRow.set (BRow.set HROW3.out (by omega) (fun s' e => ?_)) (by omega) (fun s' e => ?_))
          · rw [HR3.out.two.2.1] at e; cases e
          · rw [hR4.two.2.1] at e; cases e
        have k4 : Below w.heap.size w W4 := by
          rw [hW4]
          exact (HBEL3.out.setCell (p := ⟨w.heap.size + 1, 0, none⟩) (by show w.heap.size ≤ w.heap.size + 1; omega) _).setCell (p := ⟨w.heap.size + 1, 1, none⟩) (by show w.heap.size ≤ w.heap.size + 1; omega) _
        rw [← hW4]
        exact recover_end (R := w.heap.size + 1) (bs := bs) (rest := rest) rfl rfl rfl rfl (k1.down hdr) (k2.down hdr) (by rw [hT2]) ⟨HSP.out, HGOOD.out, hsk.out⟩ (k3.down hdr) (bt k4 hdr)
      | some rest' =>
        obtain ⟨ra, rc, ⟨s0, s1, y0, y1, _⟩, _⟩ := hr3
        have hDe := Lib.hid (decode_bytes _ f m w3 HVF.out (by omega) (moved HM.out HBEL3.out (Nat.le_refl _)))
        by_cases hz : (decodeV f).2 = 0
        · have hst2 : Hid (stepL rest = some ((decodeV f).1, rest')) := by unfold Hid; rw [HST.out]; simp only; rw [if_pos hz]
          have hdec := hDe.out
          rw [hz] at hdec
          obtain ⟨hspl, hgb⟩ := stepL_some hst2.out
          have hflen : f.length + 3 = (frameL (decodeV f).1).length := by
            rw [frameL_len, ← (decodeV_ok hz).1]
          obtain ⟨b, hbd⟩ : ∃ b, b = (decodeV f).1 := ⟨_, rfl⟩
          rw [← hbd] at hdec hspl hgb hflen
          have HDEC := Lib.hid hdec; have HSPL := Lib.hid hspl; have HGB := Lib.hid hgb; have HFL := Lib.hid hflen
          clear hdec hspl hgb hflen hbd hDe hz hst2 HST
          go_wp2_with fail
          refine HDEC.out.mono ?_
          rintro e w4 ⟨⟨v4, rfl, he4⟩, hb4⟩
          obtain ⟨G4, cp4, rfl⟩ := he4.slice
          have hb5 := bt hb4 (ba (Below.refl w4.heap.size w4) (.cells #[.int .i64 b.1, .slice G4 b.2.length cp4] 25))
          have hA5 := ba (Below.refl (w4.alloc (.cells #[.int .i64 b.1, .slice G4 b.2.length cp4] 25)).heap.size _) (.cells #[.int .i64 b.1, .slice G4 b.2.length cp4] 25)
          have hb6 := bt hb5 hA5
          replace HX3 := Lib.hid (HX3.out.down hb6); replace HR3 := Lib.hid (HR3.out.down hb6)
          replace HROW3 := Lib.hid (HROW3.out.down hb6); replace HDAT3 := Lib.hid (row_down HDAT3.out hb6); replace HBEL3 := Lib.hid (bt HBEL3.out hb6)
          have HE4 := Lib.hid ((he4.down (ba (Below.refl w4.heap.size w4) (.cells #[.int .i64 b.1, .slice G4 b.2.length cp4] 25))).down hA5)
          have hws4 := hb4.size
          have hps := tape_count bs
          have hpl : ps.length ≤ 100000 := by
            have h1 := HBS.out
            have h2 : bs.length = ps.length := by rw [h1, List.length_map]
            have h3 := HTT.out
            omega
          have hbs4 : w1.heap.size + 1 ≤ w4.heap.size := by omega
          clear c0' c1' d0' d1' q0' q1' s0 s1 y0 y1 HVF hb4 he4 hA hb5 hb6 hA5 hps
          go_wp2_with (at_builtin; refine wpList_append_lies _ (by rfl) _ _ _ (by rfl) (w1.heap.size + 1) 25 i0 _ 2 32 Tryd.underlying39 HI.out HZ0.out HZ1.out HZ2.out rfl (by omega) u7 ps.length (pcells ps) (by rfl) HROW3.out.1 ⟨w4.heap.size + 1, 0, none⟩ 1 1 [.int .i64 b.1, .slice G4 b.2.length cp4] (by rfl) (by rfl) (news_pair w4 _ _ _ _) (by simp [Value.oneCell']) (by omega) (by unfold maxLen; omega) (by omega) (by simp; omega) (w4.heap.size + 2) (by simp) ?_)
          intro g5 cap5 w5 hown5 hgrow5 hat5 hlt5
          have hx5 := HX3.out.kept hgrow5 (row_apart HROW3.out.1 (by omega))
          have hr5 := HR3.out.kept hgrow5 (row_apart HROW3.out.1 (by omega))
          have hd5 : OwnB w5 (w.heap.size + 2) 5 (.slice (some ⟨gD, 0, none⟩) l.length cp) l := HDAT3.out.kept hgrow5 (.inr (row_apart HROW3.out.1 (show gD < w1.heap.size + 1 by omega)))
          have hb5 := below_row HBEL3.out (Nat.le_refl _) HROW3.out.1 (by omega) hgrow5
          have hrow5 := BRow.snoc HROW3.out HE4.out hown5 hgrow5
          have hs5 := hgrow5.size
          simp only [World.size_alloc] at hs5
          have HX5 := Lib.hid hx5; have HR5 := Lib.hid hr5; have HD5 := Lib.hid hd5; have HB5 := Lib.hid hb5; have HROW5 := Lib.hid hrow5
          clear hgrow5 hat5 hown5 hx5 hr5 hd5 hb5 hrow5
          have hnew : Hid ((tapeL ((ps ++ [(b, Value.slice G4 b.2.length cp4)]).map Prod.fst)).length = T + (3 + f.length)) := by
            have h1 := HBS.out; have h2 := HTT.out; have h3 := HFL.out
            unfold Hid
            rw [List.map_append, ← h1, List.map_cons, List.map_nil, tapeL_snoc, List.length_append, ← h2, ← h3]
            omega
          have hmeas : Hid (T + (3 + f.length) ≤ l.length) := by
            have h1 := HLEN.out; have h2 := HSPL.out; have h3 := HFL.out
            rw [h2, List.length_append] at h1
            unfold Hid; omega
          have hsp2 : Hid (l = tapeL ((ps ++ [(b, Value.slice G4 b.2.length cp4)]).map Prod.fst) ++ rest') := by
            unfold Hid
            have h1 := HBS.out; have h2 := HSP.out; have h3 := HSPL.out
            rw [List.map_append, ← h1, List.map_cons, List.map_nil, tapeL_snoc, List.append_assoc, ← h3]
            exact h2
          have hgd2 : Hid (∀ x ∈ (ps ++ [(b, Value.slice G4 b.2.length cp4)]).map Prod.fst, GoodB x) := by
            intro x hx
            rw [List.map_append] at hx
            rcases List.mem_append.1 hx with hx | hx
            · rw [← HBS.out] at hx; exact HGOOD.out x hx
            · obtain rfl : x = b := by simpa using hx
              exact HGB.out
          go_wp2_with fail
          go_roundw
          case rel => exact ⟨ps ++ [(b, .slice G4 b.2.length cp4)], rest', hsp2.out, hgd2.out, by rw [hnew.out]; go_num, HROW5.out, HX5.out, HR5.out, HD5.out, HB5.out, by omega⟩
          case measure => have := hmeas.out; simp [intOf]; omega
        · have hsk : Hid (stepL rest = none) := by unfold Hid; rw [HST.out]; simp only; rw [if_neg hz]
          obtain ⟨c, hc⟩ : ∃ c, c = (decodeV f).2 := ⟨_, rfl⟩
          have hdec := hDe.out
          rw [← hc] at hdec hz
          obtain ⟨b, hbd⟩ : ∃ b, b = (decodeV f).1 := ⟨_, rfl⟩
          rw [← hbd] at hdec
          have HDEC := Lib.hid hdec
          clear hdec hDe hc hbd HST
          go_wp2_with fail
          refine HDEC.out.mono ?_
          rintro e w4 ⟨⟨v4, rfl, he4⟩, hb4⟩
          obtain ⟨G4, cp4, rfl⟩ := he4.slice
          replace HX3 := Lib.hid (HX3.out.down hb4); replace HR3 := Lib.hid (HR3.out.down hb4)
          replace HROW3 := Lib.hid (HROW3.out.down hb4); replace HDAT3 := Lib.hid (row_down HDAT3.out hb4); replace HBEL3 := Lib.hid (bt HBEL3.out hb4)
          have hws4 := hb4.size
          clear c0' c1' d0' d1' q0' q1' s0 s1 y0 y1 HVF hb4 he4 hA
          obtain ⟨c0', c1', _, _⟩ := HX3.out.two
          obtain ⟨d0', d1', q0', q1'⟩ := HR3.out.two
          have hw14 : w1.heap.size < w4.heap.size := by omega
          have hw04 : w.heap.size + 1 < w4.heap.size := by omega
          go_wp2_with fail
          go_region
          go_wp2_with fail
          have hR4 := HR3.out.set' (i := 0) (.slice (some ⟨gD, 0, none⟩) T T) (by simp)
          have hT2 := HTT.out
          obtain ⟨W4, hW4⟩ : ∃ W4, W4 = (w4.setCell ⟨w.heap.size + 1, 0, none⟩ (.slice (some ⟨gD, 0, none⟩) T T)).setCell ⟨w.heap.size + 1, 1, none⟩ (.int .i64 (min s T)) := ⟨_, rfl⟩
          have hdr := Below.drew (ba (Below.refl W4.heap.size W4) (.cells #[.int .i64 b.1, .slice G4 b.2.length cp4] 25))
          have k1 : Has W4 (w.heap.size + 1) [.slice (some ⟨gD, 0, none⟩) T T, .int .i64 (min s T)] := by rw [hW4]; exact hR4.set' (i := 1) (.int .i64 (min s T)) (by simp)
          have k2 : Bytes W4 (.slice (some ⟨gD, 0, none⟩) T T) (tapeL bs) := by
            have h1 := OwnB.bytes (row_else (row_else HDAT3.out (show w.heap.size + 1 < w.heap.size + 2 by omega) 0 (.slice (some ⟨gD, 0, none⟩) T T)) (show w.heap.size + 1 < w.heap.size + 2 by omega) 1 (.int .i64 (min s T)))
            have h2 := bytes_cut T h1 (by have := HLEN.out; omega)
            have h3 : l.take T = tapeL bs := by
              have := HSP.out
              rw [this, hT2, List.take_left]
            rw [h3] at h2
            rw [hW4]; exact h2
          have k3 : BatsAt W4 u7 bs := by
            rw [HBS.out, hW4]
            refine BRow.bats (base := w1.heap.size + 1) (BRow.set (BRow.set HROW3.out (by omega) (fun s' e => ?_)) (by omega) (fun s' e => ?_))
            · rw [HR3.out.two.2.1] at e; cases e
            · rw [hR4.two.2.1] at e; cases e
          have k4 : Below w.heap.size w W4 := by
            rw [hW4]
            exact (HBEL3.out.setCell (p := ⟨w.heap.size + 1, 0, none⟩) (by show w.heap.size ≤ w.heap.size + 1; omega) _).setCell (p := ⟨w.heap.size + 1, 1, none⟩) (by show w.heap.size ≤ w.heap.size + 1; omega) _
          rw [← hW4]
          exact recover_end (R := w.heap.size + 1) (bs := bs) (rest := rest) rfl rfl rfl rfl (k1.down hdr) (k2.down hdr) (by rw [hT2]) ⟨HSP.out, HGOOD.out, hsk.out⟩ (k3.down hdr) (bt k4 hdr)
end Go.Proofs.YtdobigkhilimlaaDoor
