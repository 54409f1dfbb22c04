/-
  DERIVED. 'State' of postroomkeep: the walk.
-/
import Derived.Test.YthllhakgcnfmcaaDoorBoxApply1
import Derived.Test.YthllhakgcnfmcaaDoorEntriesOf
import Derived.Deep.DeepCutAuto
import Derived.Deep.RegionHeld3
namespace Go.Proofs.YthllhakgcnfmcaaDoor
open Go.RowKit

def st0 : St := ⟨[⟨[73, 78, 66, 79, 88], 1, []⟩], []⟩
def stepS (s : St) (c : Raw) : St := if (allS s [entOf c]).2 = 0 then (allS s [entOf c]).1 else s
def stOf (cs : List Raw) : St := (cs.take 40).foldl stepS st0
theorem allS_one (s : St) (x : Ent) (hx : formV x = 0) : allS s [x] = if (applyS s x).2 ≠ 0 then (s, (applyS s x).2) else ((applyS s x).1, 0) := by
  show (if formV x ≠ 0 then _ else if (applyS s x).2 ≠ 0 then _ else _) = _
  rw [if_neg (by rw [hx]; decide)]; rfl
theorem allS_one_good {s : St} {x : Ent} (hg : GoodS s) (hx : formV x = 0) : GoodS (allS s [x]).1 := by
  rw [allS_one s x hx]
  split
  · exact hg
  · exact applyS_good hg hx
theorem stepS_good {s : St} (hg : GoodS s) (c : Raw) : GoodS (stepS s c) := by
  unfold stepS
  split
  · exact allS_one_good hg (entOf_form c)
  · exact hg
theorem st0_good : GoodS st0 where
  boxes := by decide
  spool := by decide
  ok := fun b hb => by
    obtain rfl := List.mem_singleton.1 hb
    exact ⟨by decide +kernel, Nat.le_refl _, by show (1 : Nat) ≤ 1048577; omega, Nat.zero_le _, trivial⟩
  names := List.pairwise_singleton _ _
  out := fun x hx => by cases hx
  room := Nat.zero_le _
theorem stOf_good (cs : List Raw) : GoodS (stOf cs) := by
  unfold stOf
  generalize cs.take 40 = l
  have key : ∀ (l : List Raw) (s : St), GoodS s → GoodS (l.foldl stepS s) := by
    intro l
    induction l with
    | nil => intro s h; exact h
    | cons c l ih => intro s h; exact ih _ (stepS_good h c)
  exact key l st0 st0_good
/-- what State answers -/
def StPost (s : St) (w : World) (e : Ending) (w' : World) : Prop := (∃ G1 c1 G2 c2, e = .returned (.agg #[.slice G1 s.boxes.length c1, .slice G2 s.spool.length c2]) ∧ SAt cBox w' (fun _ => True) (.slice G1 s.boxes.length c1) s.boxes ∧ SAt cEnt w' (fun _ => True) (.slice G2 s.spool.length c2) s.spool) ∧ Below w.heap.size w w'
theorem state_end {R : Nat} {s : St} {G1 G2 : Option Addr} {c1 c2 : Nat} {a : Act} {W w : World} (ht : a.tmps.getD 2 undef = .pointer (some ⟨R, 0, none⟩)) (hd : a.defers = [])
    (h : Has W R [.slice G1 s.boxes.length c1, .slice G2 s.spool.length c2]) (he : SAt cBox W (fun _ => True) (.slice G1 s.boxes.length c1) s.boxes) (hf : SAt cEnt W (fun _ => True) (.slice G2 s.spool.length c2) s.spool) (hb : Below w.heap.size w W) : bodyPost Tryd.prog Tryd.f12 (StPost s w) .ret a W := by
  obtain ⟨c0, c1', _, _⟩ := h.two
  refine bodyPost_ret (v := .agg #[.slice G1 s.boxes.length c1, .slice G2 s.spool.length c2]) ?_ hd ⟨⟨_, _, _, _, rfl, he, hf⟩, hb⟩
  have ht' : a.tmps[2]?.getD undef = .pointer (some ⟨R, 0, none⟩) := by simpa using ht
  simp [results, Tryd.results12, go_sem, ht', c0, c1']
/-- what stands behind one Apply -/
def ApNew (r : St × Int) (wr : World) (p e : Value) (wx : World) : Prop := ∃ (R : Nat) (B : Nat), p = .pointer (some ⟨R, 0, none⟩) ∧ e = .int .i64 r.2 ∧ wr.heap.size ≤ R ∧ wr.heap.size ≤ B ∧ Below wr.heap.size wr wx ∧ R < wx.heap.size ∧
  (r.2 = 0 → ∃ G1 c1 G2 c2, Has wx R [.slice G1 r.1.boxes.length c1, .slice G2 r.1.spool.length c2] ∧ OwnV wx B (.slice G1 r.1.boxes.length c1) (.slice G2 r.1.spool.length c2) r.1)

theorem ap_new {r : St × Int} {wr wx : World} {B : Nat} {v1 v2 : Value} (hb : Below wr.heap.size wr wx) (hB : wr.heap.size ≤ B) (h : r.2 = 0 → ∃ G1 c1 G2 c2, v1 = .slice G1 r.1.boxes.length c1 ∧ v2 = .slice G2 r.1.spool.length c2 ∧ OwnV wx B v1 v2 r.1) :
    ApNew r wr (.pointer (some ⟨wx.heap.size, 0, none⟩)) (.int .i64 r.2) (wx.alloc (.cells #[v1, v2] 28)) :=
  ⟨wx.heap.size, B, rfl, rfl, hb.size, hB, ba hb _, by simp, fun h0 => by obtain ⟨G1, c1, G2, c2, rfl, rfl, ho⟩ := h h0; exact ⟨G1, c1, G2, c2, Has.alloc wx _ _, ho.down (ba (Below.refl _ _) _)⟩⟩
theorem ap_at {r : St × Int} {wr wx : World} {B R : Nat} {v1 v2 : Value} (hb : Below wr.heap.size wr wx) (hR : wr.heap.size ≤ R) (hB : R < B) (hk : Has wx R [.slice none 0 0, .slice none 0 0]) (h : r.2 = 0 → ∃ G1 c1 G2 c2, v1 = .slice G1 r.1.boxes.length c1 ∧ v2 = .slice G2 r.1.spool.length c2 ∧ OwnV wx B v1 v2 r.1) :
    ApNew r wr (.pointer (some ⟨R, 0, none⟩)) (.int .i64 r.2) ((wx.setCell ⟨R, 0, none⟩ v1).setCell ⟨R, 1, none⟩ v2) :=
  ⟨R, B, rfl, rfl, hR, by omega, (hb.setCell (p := ⟨R, 0, none⟩) hR _).setCell (p := ⟨R, 1, none⟩) hR _, by have := hk.2.2; simpa using this, fun h0 => by
    obtain ⟨G1, c1, G2, c2, rfl, rfl, ho⟩ := h h0
    exact ⟨G1, c1, G2, c2, (hk.set' (i := 0) _ (by simp)).set' (i := 1) _ (by simp), (ho.else' hB).else' hB⟩⟩
/-- what stands at the head of each round -/
def StRel (cs : List Raw) (w : World) (i : Value) (wr : World) : Prop := ∃ (j : Nat) (t : St) (G1 : Option Addr) (c1 : Nat) (G2 : Option Addr) (c2 : Nat), j ≤ cs.length ∧ j ≤ 40 ∧ i = .int .i64 j ∧ t = (cs.take j).foldl stepS st0 ∧ GoodS t ∧ Has wr (w.heap.size + 2) [.slice G1 t.boxes.length c1, .slice G2 t.spool.length c2] ∧
  SAt cBox wr (fun b => b ≠ w.heap.size + 2 ∧ b ≠ w.heap.size) (.slice G1 t.boxes.length c1) t.boxes ∧ SAt cEnt wr (fun b => b ≠ w.heap.size + 2 ∧ b ≠ w.heap.size) (.slice G2 t.spool.length c2) t.spool ∧ Has wr w.heap.size [.slice none 0 0, .slice none 0 0] ∧ Below w.heap.size w wr
theorem st0_at (w : World) (o : Obj) : SAt cBox ((w.alloc o).alloc (.cells #[.string ⟨#[73, 78, 66, 79, 88]⟩, .int .i64 1, .slice none 0 0] 39)) (fun b => b ≠ w.heap.size + 2 ∧ b ≠ w.heap.size) (.slice (some ⟨w.heap.size + 1, 0, none⟩) 1 1) st0.boxes := by
  refine ⟨_, 1, rfl, Nat.le_refl _, fun i y hi => ⟨w.heap.size + 1, 0, rfl, ⟨by omega, by omega⟩, by simp, ?_⟩⟩
  cases i with
  | succ i => simp [st0] at hi
  | zero =>
    obtain rfl : (⟨[73, 78, 66, 79, 88], 1, []⟩ : Bx) = y := by simpa [st0] using hi
    refine ⟨[.string ⟨#[73, 78, 66, 79, 88]⟩, .int .i64 1, .slice none 0 0], ⟨.slice none 0 0, rfl, SAt.nil _ _ _⟩, fun j u hj => ?_⟩
    have := (Has.alloc (w.alloc o) [.string ⟨#[73, 78, 66, 79, 88]⟩, .int .i64 1, .slice none 0 0] 39).1 j u hj
    simpa using this
theorem take_fold (cs : List Raw) (j : Nat) (h : j < cs.length) : (cs.take (j + 1)).foldl stepS st0 = stepS ((cs.take j).foldl stepS st0) cs[j] := by
  rw [List.take_succ_eq_append_getElem h, List.foldl_append]; rfl
set_option maxHeartbeats 8000000 in
set_option maxRecDepth 20000 in
theorem state_any (a : Option Addr) (cap : Nat) (cs : List Raw) (m : Int) (w : World) (h : RawsAt w a cs) (hlen : cs.length ≤ 9223372036854775807) (hm : w.cell? ⟨0, 0, none⟩ = some (.int .i64 m)) :
    Calls Tryd.prog 12 #[.slice a cs.length cap] w (StPost (stOf cs) w) := by
  have HR := Lib.hid h; have HM := Lib.hid hm
  have hA3 := ba (Below.refl ((w.alloc (.cells #[.slice none 0 0, .slice none 0 0] 28)).alloc (.cells #[.string ⟨#[73, 78, 66, 79, 88]⟩, .int .i64 1, .slice none 0 0] 39)).heap.size _) (.cells #[.slice (some ⟨w.heap.size + 1, 0, none⟩) 1 1, .slice none 0 0] 28)
  have h3 := Has.alloc ((w.alloc (.cells #[.slice none 0 0, .slice none 0 0] 28)).alloc (.cells #[.string ⟨#[73, 78, 66, 79, 88]⟩, .int .i64 1, .slice none 0 0] 39)) [.slice (some ⟨w.heap.size + 1, 0, none⟩) 1 1, .slice none 0 0] 28
  simp only [World.size_alloc] at h3
  have H3 := Lib.hid h3
  have H1 := Lib.hid ((st0_at w (.cells #[.slice none 0 0, .slice none 0 0] 28)).down hA3)
  have H2 := Lib.hid (((Has.alloc w [.slice none 0 0, .slice none 0 0] 28).down (ba (Below.refl _ _) (.cells #[.string ⟨#[73, 78, 66, 79, 88]⟩, .int .i64 1, .slice none 0 0] 39))).down hA3)
  have HB := Lib.hid (bt (ba (ba (Below.refl w.heap.size w) (.cells #[.slice none 0 0, .slice none 0 0] 28)) (.cells #[.string ⟨#[73, 78, 66, 79, 88]⟩, .int .i64 1, .slice none 0 0] 39)) hA3)
  clear h hm hA3 h3
  go_enter Tryd.func12, Tryd.ntmps12
  go_wp2_with fail
  go_loopw [4] (StRel cs w) (fun i _ => cs.length - (intOf i).toNat)
  case atStart => exact ⟨0, st0, some ⟨w.heap.size + 1, 0, none⟩, 1, none, 0, Nat.zero_le _, Nat.zero_le _, rfl, rfl, st0_good, H3.out, H1.out, SAt.nil _ _ _, H2.out, HB.out⟩
  case round =>
    obtain ⟨j, t, G1, c1, G2, c2, hj, hj40, rfl, ht, hgt, hO, hS1, hS2, hR, hb⟩ := hrel
    clear H1 H2 H3 HB
    by_cases hlt : j < cs.length ∧ j < 40
    · obtain ⟨hl, h40⟩ := hlt
      obtain ⟨g, off, ha, hg, hin⟩ := HR.out j cs[j] (List.getElem?_eq_getElem hl)
      subst ha
      obtain ⟨m0, m1, m2, m3, m4, m5, hok⟩ := hin.down hb
      have htk := take_fold cs j hl
      have hfx := entOf_form cs[j]
      generalize cs[j] = c at m0 m1 m2 m3 m4 m5 hok htk hfx hin
      have HE : Hid (∀ w', Calls Tryd.prog 13 #[.agg #[.int .i64 c.kind, .int .i64 c.box, .int .i64 c.uid, .int .i64 c.flags, .int .i64 c.dest, .string c.text]] w' fun e w'' => e = .returned (.agg #[.int .i64 (entOf c).kind, .string ⟨(entOf c).box.toArray⟩, .int .i64 (entOf c).uid, .int .i64 (entOf c).flags, .string ⟨(entOf c).to.toArray⟩, .string ⟨(entOf c).text.toArray⟩]) ∧ Below w'.heap.size w' w'') := fun w' => entry_any c w' hok
      have hst : stepS t c = if (allS t [entOf c]).2 = 0 then (allS t [entOf c]).1 else t := rfl
      rw [← ht] at htk
      obtain ⟨x, hx⟩ : ∃ x, x = entOf c := ⟨_, rfl⟩
      rw [← hx] at HE hst hfx
      have HSM := Lib.hid (small_of_form hfx)
      obtain ⟨r, hr⟩ : ∃ r, r = allS t [x] := ⟨_, rfl⟩
      have hgr : GoodS r.1 := by rw [hr]; exact allS_one_good hgt hfx
      rw [← hr] at hst
      have HTK := Lib.hid htk; have HST := Lib.hid hst; have HGT := Lib.hid hgt; have HGR := Lib.hid hgr
      have HS1 := Lib.hid hS1; have HS2 := Lib.hid hS2; have HT1S := Lib.hid hS1; have HT2S := Lib.hid hS2; have HO := Lib.hid hO; have HR2 := Lib.hid hR; have HB := Lib.hid hb
      obtain ⟨o0, o1, -, -⟩ := hO.two
      have hdr := Below.drew (Below.refl wr.heap.size wr)
      have hda := ba (Below.refl wr.heap.size wr) (.cells #[.slice none 0 0, .slice none 0 0] 28)
      have o0a := moved o0 hda (Nat.le_refl _); have o1a := moved o1 hda (Nat.le_refl _)
      have m0a := moved m0 hda (Nat.le_refl _); have m1a := moved m1 hda (Nat.le_refl _); have m2a := moved m2 hda (Nat.le_refl _); have m3a := moved m3 hda (Nat.le_refl _); have m4a := moved m4 hda (Nat.le_refl _); have m5a := moved m5 hda (Nat.le_refl _)
      have hH : Hid (∀ w' : World, Has (w'.alloc (.cells #[.slice none 0 0, .slice none 0 0] 28)) w'.heap.size [.slice none 0 0, .slice none 0 0]) := fun w' => Has.alloc w' [.slice none 0 0, .slice none 0 0] 28
      have HELD : ∀ w', Below wr.heap.size wr w' → w'.cell? ⟨w.heap.size + 2, 0, none⟩ = some (.slice G1 t.boxes.length c1) ∧ w'.cell? ⟨w.heap.size + 2, 1, none⟩ = some (.slice G2 t.spool.length c2) ∧ w'.cell? ⟨g, off + j * 6, none⟩ = some (.int .i64 c.kind) ∧ w'.cell? ⟨g, off + j * 6 + 1, none⟩ = some (.int .i64 c.box) ∧ w'.cell? ⟨g, off + j * 6 + 2, none⟩ = some (.int .i64 c.uid) ∧ w'.cell? ⟨g, off + j * 6 + 3, none⟩ = some (.int .i64 c.flags) ∧ w'.cell? ⟨g, off + j * 6 + 4, none⟩ = some (.int .i64 c.dest) ∧ w'.cell? ⟨g, off + j * 6 + 5, none⟩ = some (.string c.text) := fun w' h => ⟨moved o0 h (Nat.le_refl _), moved o1 h (Nat.le_refl _), moved m0 h (Nat.le_refl _), moved m1 h (Nat.le_refl _), moved m2 h (Nat.le_refl _), moved m3 h (Nat.le_refl _), moved m4 h (Nat.le_refl _), moved m5 h (Nat.le_refl _)⟩
      have HELD := Lib.hid HELD
      clear hin hok ht htk hst hgt hgr hfx hx hS1 hS2 hO hR hb hda
      by_cases hr0 : r.2 = 0
      · skip
        have HAP : Hid (∀ w', Below wr.heap.size wr w' → Calls Tryd.prog 14 #[.agg #[.slice G1 t.boxes.length c1, .slice G2 t.spool.length c2], .agg #[.int .i64 x.kind, .string ⟨x.box.toArray⟩, .int .i64 x.uid, .int .i64 x.flags, .string ⟨x.to.toArray⟩, .string ⟨x.text.toArray⟩]] w' fun e w'' => (∃ G1 c1 G2 c2, e = .returned (.tuple #[.agg #[.slice G1 r.1.boxes.length c1, .slice G2 r.1.spool.length c2], .int .i64 0]) ∧ OwnV w'' w'.heap.size (.slice G1 r.1.boxes.length c1) (.slice G2 r.1.spool.length c2) r.1) ∧ Below w'.heap.size w' w'') := by
          intro w' hb'
          have := Apply_any t x _ _ _ m w' (HS1.out.down hb') (HS2.out.down hb') HGT.out HSM.out (moved HM.out (bt HB.out hb') (Nat.le_refl _))
          rw [← hr] at this
          refine this.mono fun e w'' h => ?_
          unfold ApPost at h
          rwa [if_pos hr0] at h
        clear HS1 HS2 hr
        have HR0 := Lib.hid hr0
        clear hr0
        go_upto_region 5 with fail
        go_cut [5, 6] (ApNew r wr)
        case first =>
          go_region_held3 (fun w' => w'.cell? ⟨w.heap.size + 2, 0, none⟩ = some (.slice G1 t.boxes.length c1) ∧ w'.cell? ⟨w.heap.size + 2, 1, none⟩ = some (.slice G2 t.spool.length c2) ∧ w'.cell? ⟨g, off + j * 6, none⟩ = some (.int .i64 c.kind) ∧ w'.cell? ⟨g, off + j * 6 + 1, none⟩ = some (.int .i64 c.box) ∧ w'.cell? ⟨g, off + j * 6 + 2, none⟩ = some (.int .i64 c.uid) ∧ w'.cell? ⟨g, off + j * 6 + 3, none⟩ = some (.int .i64 c.flags) ∧ w'.cell? ⟨g, off + j * 6 + 4, none⟩ = some (.int .i64 c.dest) ∧ w'.cell? ⟨g, off + j * 6 + 5, none⟩ = some (.string c.text)) (first | exact ⟨o0, o1, m0, m1, m2, m3, m4, m5⟩ | exact ⟨o0a, o1a, m0a, m1a, m2a, m3a, m4a, m5a⟩ | exact HELD.out w3 hd3 | exact HELD.out _ (ba hd3 _) | exact HELD.out w4 (bt hd3 hb4) | exact HELD.out w4 (bt (ba hd3 _) hb4) | exact HELD.out _ (ba (bt hd3 hb4) _) | exact HELD.out _ (Below.setCell (Below.setCell (by first | exact bt hd3 hb4 | exact bt (ba hd3 _) hb4) (by first | exact Nat.le_refl _ | exact hd3.size) _) (by first | exact Nat.le_refl _ | exact hd3.size) _)) (first
            | (go_at_call 13; refine (HE.out _).mono ?_; rintro e w3 ⟨rfl, hb3⟩; have hd3 : Below wr.heap.size wr w3 := (by first | exact bt hdr hb3 | exact bt (ba hdr _) hb3); have s0 := moved o0 hd3 (Nat.le_refl _); have s1 := moved o1 hd3 (Nat.le_refl _); have s0a := moved s0 (ba (Below.refl w3.heap.size w3) (.cells #[.slice none 0 0, .slice none 0 0] 28)) (Nat.le_refl _); have s1a := moved s1 (ba (Below.refl w3.heap.size w3) (.cells #[.slice none 0 0, .slice none 0 0] 28)) (Nat.le_refl _))
            | (go_at_call 14; refine (HAP.out _ (by first | exact hd3 | exact ba hd3 _)).mono ?_; rintro e w4 ⟨⟨E1, e1, E2, e2, rfl, hv4⟩, hb4⟩; first | (have kk : Has w4 wr.heap.size [.slice none 0 0, .slice none 0 0] := ((hH.out wr.drew).down hb3).down hb4; obtain ⟨k0, k1, k2, k3⟩ := kk.two) | (have kk : Has w4 w3.heap.size [.slice none 0 0, .slice none 0 0] := (hH.out w3).down hb4; obtain ⟨k0, k1, k2, k3⟩ := kk.two) | (have kk := trivial)))
          all_goals
            go_wp2_with fail
            go_meet
            case rel =>
              try rw [show (Value.int .i64 0) = .int .i64 r.2 by rw [HR0.out]]
              first
                | exact ap_new (bt hd3 hb4) hd3.size (fun _ => ⟨_, _, _, _, rfl, rfl, hv4⟩)
                | exact ap_at (bt hd3 hb4) (Nat.le_refl _) (by have := hb3.size; simp at this; omega) kk (fun _ => ⟨_, _, _, _, rfl, rfl, hv4⟩)
                | exact ap_at (bt (ba hd3 _) hb4) hd3.size (by simp) kk (fun _ => ⟨_, _, _, _, rfl, rfl, hv4⟩)
        case rest =>
          obtain ⟨R, B, rfl, rfl, hR9, hB9, hb9, hRz9, hh9⟩ := hcut
          obtain ⟨E1, e1, E2, e2, hx9, hv9⟩ := hh9 HR0.out
          obtain ⟨x0, x1, -, -⟩ := hx9.two
          have ho9 := HO.out.down hb9
          obtain ⟨y0, y1, yf0, yf1⟩ := ho9.two
          have hz9 := HO.out.2.2
          have q : (r.2 == 0) = true := by have := HR0.out; simpa using this
          have HO9 := Lib.hid ho9; have HV9 := Lib.hid hv9; have HR9 := Lib.hid (HR2.out.down hb9); have HB9 := Lib.hid (bt HB.out hb9)
          have hn : Hid (r.1 = (cs.take (j + 1)).foldl stepS st0) := by unfold Hid; rw [HTK.out, HST.out, if_pos HR0.out]
          have hzz := hb9.size
          clear hx9 ho9 hv9 hb9 hh9 o0 o1 o0a o1a m0 m1 m2 m3 m4 m5 m0a m1a m2a m3a m4a m5a hdr HAP HE HELD
          go_wp2_with fail
          go_roundw
          case rel =>
            have hs := ((HV9.out.else' (R := w.heap.size + 2) (i := 0) (u := .slice E1 r.1.boxes.length e1) (by omega)).else' (R := w.heap.size + 2) (i := 1) (u := .slice E2 r.1.spool.length e2) (by omega)).sat (F := fun b => b ≠ w.heap.size + 2 ∧ b ≠ w.heap.size) (fun b hb => ⟨by omega, by omega⟩)
            exact ⟨j + 1, r.1, E1, e1, E2, e2, hl, h40, by go_num, hn.out, HGR.out, (HO9.out.set' (i := 0) _ (by simp)).set' (i := 1) _ (by simp), hs.1, hs.2, (HR9.out.else' (by omega) _).else' (by omega) _, (HB9.out.setCell (p := ⟨w.heap.size + 2, 0, none⟩) (by show w.heap.size ≤ w.heap.size + 2; omega) _).setCell (p := ⟨w.heap.size + 2, 1, none⟩) (by show w.heap.size ≤ w.heap.size + 2; omega) _⟩
          case measure => simp [intOf]; omega
      · skip
        have HAP : Hid (∀ w', Below wr.heap.size wr w' → Calls Tryd.prog 14 #[.agg #[.slice G1 t.boxes.length c1, .slice G2 t.spool.length c2], .agg #[.int .i64 x.kind, .string ⟨x.box.toArray⟩, .int .i64 x.uid, .int .i64 x.flags, .string ⟨x.to.toArray⟩, .string ⟨x.text.toArray⟩]] w' fun e w'' => e = .returned (.tuple #[.agg #[.slice none 0 0, .slice none 0 0], .int .i64 r.2]) ∧ Below w'.heap.size w' w'') := by
          intro w' hb'
          have := Apply_any t x _ _ _ m w' (HS1.out.down hb') (HS2.out.down hb') HGT.out HSM.out (moved HM.out (bt HB.out hb') (Nat.le_refl _))
          rw [← hr] at this
          refine this.mono fun e w'' h => ?_
          unfold ApPost at h
          rwa [if_neg hr0] at h
        clear HS1 HS2 hr
        have HR0 := Lib.hid hr0
        clear hr0
        go_upto_region 5 with fail
        go_cut [5, 6] (ApNew r wr)
        case first =>
          go_region_held3 (fun w' => w'.cell? ⟨w.heap.size + 2, 0, none⟩ = some (.slice G1 t.boxes.length c1) ∧ w'.cell? ⟨w.heap.size + 2, 1, none⟩ = some (.slice G2 t.spool.length c2) ∧ w'.cell? ⟨g, off + j * 6, none⟩ = some (.int .i64 c.kind) ∧ w'.cell? ⟨g, off + j * 6 + 1, none⟩ = some (.int .i64 c.box) ∧ w'.cell? ⟨g, off + j * 6 + 2, none⟩ = some (.int .i64 c.uid) ∧ w'.cell? ⟨g, off + j * 6 + 3, none⟩ = some (.int .i64 c.flags) ∧ w'.cell? ⟨g, off + j * 6 + 4, none⟩ = some (.int .i64 c.dest) ∧ w'.cell? ⟨g, off + j * 6 + 5, none⟩ = some (.string c.text)) (first | exact ⟨o0, o1, m0, m1, m2, m3, m4, m5⟩ | exact ⟨o0a, o1a, m0a, m1a, m2a, m3a, m4a, m5a⟩ | exact HELD.out w3 hd3 | exact HELD.out _ (ba hd3 _) | exact HELD.out w4 (bt hd3 hb4) | exact HELD.out w4 (bt (ba hd3 _) hb4) | exact HELD.out _ (ba (bt hd3 hb4) _) | exact HELD.out _ (Below.setCell (Below.setCell (by first | exact bt hd3 hb4 | exact bt (ba hd3 _) hb4) (by first | exact Nat.le_refl _ | exact hd3.size) _) (by first | exact Nat.le_refl _ | exact hd3.size) _)) (first
            | (go_at_call 13; refine (HE.out _).mono ?_; rintro e w3 ⟨rfl, hb3⟩; have hd3 : Below wr.heap.size wr w3 := (by first | exact bt hdr hb3 | exact bt (ba hdr _) hb3); have s0 := moved o0 hd3 (Nat.le_refl _); have s1 := moved o1 hd3 (Nat.le_refl _); have s0a := moved s0 (ba (Below.refl w3.heap.size w3) (.cells #[.slice none 0 0, .slice none 0 0] 28)) (Nat.le_refl _); have s1a := moved s1 (ba (Below.refl w3.heap.size w3) (.cells #[.slice none 0 0, .slice none 0 0] 28)) (Nat.le_refl _))
            | (go_at_call 14; refine (HAP.out _ (by first | exact hd3 | exact ba hd3 _)).mono ?_; rintro e w4 ⟨rfl, hb4⟩; first | (have kk : Has w4 wr.heap.size [.slice none 0 0, .slice none 0 0] := ((hH.out wr.drew).down hb3).down hb4; obtain ⟨k0, k1, k2, k3⟩ := kk.two) | (have kk : Has w4 w3.heap.size [.slice none 0 0, .slice none 0 0] := (hH.out w3).down hb4; obtain ⟨k0, k1, k2, k3⟩ := kk.two) | (have kk := trivial)))
          all_goals
            go_wp2_with fail
            go_meet
            case rel => first
              | exact ap_new (B := wr.heap.size) (bt hd3 hb4) (Nat.le_refl _) (fun h => absurd h HR0.out)
              | exact ap_at (B := wr.heap.size + 1) (bt hd3 hb4) (Nat.le_refl _) (by omega) kk (fun h => absurd h HR0.out)
              | exact ap_at (B := w3.heap.size + 1) (bt (ba hd3 _) hb4) hd3.size (by omega) kk (fun h => absurd h HR0.out)
        case rest =>
          obtain ⟨R, B, rfl, rfl, hR9, hB9, hb9, hRz9, hh9⟩ := hcut
          have q : (r.2 == 0) = false := by have := HR0.out; simpa using this
          have HO9 := Lib.hid (HO.out.down hb9); have HR9 := Lib.hid (HR2.out.down hb9); have HB9 := Lib.hid (bt HB.out hb9)
          have hn : Hid (t = (cs.take (j + 1)).foldl stepS st0) := by unfold Hid; rw [HTK.out, HST.out, if_neg HR0.out]
          have HT1 := Lib.hid (HT1S.out.down hb9); have HT2 := Lib.hid (HT2S.out.down hb9)
          clear hb9 hh9 o0 o1 o0a o1a m0 m1 m2 m3 m4 m5 m0a m1a m2a m3a m4a m5a hdr HAP HE HELD
          go_wp2_with fail
          go_roundw
          case rel => exact ⟨j + 1, t, G1, c1, G2, c2, hl, h40, by go_num, hn.out, HGT.out, HO9.out, HT1.out, HT2.out, HR9.out, HB9.out⟩
          case measure => simp [intOf]; omega
    · have hend : Hid (t = stOf cs) := by
        unfold Hid stOf; rw [ht]
        congr 1
        by_cases h40 : j = 40
        · rw [h40]
        · rw [List.take_of_length_le (by omega), List.take_of_length_le (by omega)]
      obtain ⟨c0, c1', -, -⟩ := hO.two
      obtain ⟨d0, d1, f0, f1⟩ := hR.two
      have HRR := Lib.hid hR; have HBB := Lib.hid hb; have HS1 := Lib.hid hS1; have HS2 := Lib.hid hS2
      have hz := hR.2.2
      clear hO hR hb ht hS1 hS2 hgt
      have HF : Hid (∀ u v, SAt cBox ((wr.setCell ⟨w.heap.size, 0, none⟩ u).setCell ⟨w.heap.size, 1, none⟩ v) (fun _ => True) (.slice G1 t.boxes.length c1) t.boxes ∧ SAt cEnt ((wr.setCell ⟨w.heap.size, 0, none⟩ u).setCell ⟨w.heap.size, 1, none⟩ v) (fun _ => True) (.slice G2 t.spool.length c2) t.spool) := by
        intro u v
        have g1 := Go.Lib.grownBy_setB (World.grownBy.refl wr (some w.heap.size)) 0 u
        have g2 := Go.Lib.grownBy_trans g1 (Go.Lib.grownBy_setB (World.grownBy.refl _ (some w.heap.size)) 1 v)
        have hs := Same.of_grown (F := fun b => b ≠ w.heap.size + 2 ∧ b ≠ w.heap.size) g2 (fun b e hh => hh.2 (Option.some.inj e).symm)
        exact ⟨(HS1.out.stable hs g2.size).mono (fun _ _ => trivial), (HS2.out.stable hs g2.size).mono (fun _ _ => trivial)⟩
      by_cases h : j < cs.length
      · have h2 : decide ((j : Int) < 40) = false := decide_eq_false (by omega)
        go_wp2_with fail
        rw [← hend.out]
        exact state_end (R := w.heap.size) rfl rfl ((HRR.out.set' (i := 0) _ (by simp)).set' (i := 1) _ (by simp)) (HF.out _ _).1 (HF.out _ _).2 ((HBB.out.setCell (p := ⟨w.heap.size, 0, none⟩) (Nat.le_refl _) _).setCell (p := ⟨w.heap.size, 1, none⟩) (Nat.le_refl _) _)
      · have h2 : decide ((j : Int) < cs.length) = false := decide_eq_false (by omega)
        go_wp2_with fail
        rw [← hend.out]
        exact state_end (R := w.heap.size) rfl rfl ((HRR.out.set' (i := 0) _ (by simp)).set' (i := 1) _ (by simp)) (HF.out _ _).1 (HF.out _ _).2 ((HBB.out.setCell (p := ⟨w.heap.size, 0, none⟩) (Nat.le_refl _) _).setCell (p := ⟨w.heap.size, 1, none⟩) (Nat.le_refl _) _)
end Go.Proofs.YthllhakgcnfmcaaDoor
