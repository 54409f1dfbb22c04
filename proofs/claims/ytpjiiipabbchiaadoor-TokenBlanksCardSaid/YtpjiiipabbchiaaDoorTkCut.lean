/-
  DERIVED. token.Cut: the walk.
-/
import Derived.Test.YtpjiiipabbchiaaDoorTkOne
import Derived.Test.YtpjiiipabbchiaaDoorTokMore
import Derived.Test.YtpjiiipabbchiaaDoorCod
namespace Go.Proofs.YtpjiiipabbchiaaDoor.Tk
open Go.RowKit

theorem infoTok : (Tryd.prog.info? 31).map (fun i => (i.zero, i.size, i.bytes)) = some (some (.agg #[.int .i64 0, .string ⟨#[]⟩, .int .i64 0]), 3, 32) := by kernel_rfl
def tokC (t : Tok) : List Value := [.int .i64 t.kind, .string ⟨t.text.toArray⟩, .int .i64 t.num]
def cTok : Cod Tok := Cod.flat 3 tokC (fun _ => rfl)
/-- what Cut answers -/
def CutPost (r : List Tok × Nat × Int) (w : World) (e : Ending) (w' : World) : Prop :=
  (∃ v, e = .returned (.tuple #[v, .int .i64 r.2.1, .int .i64 r.2.2]) ∧ SAt cTok w' (fun b => w.heap.size ≤ b) v r.1) ∧ Below w.heap.size w w'
theorem CutPost.none' {k : Nat} {z : Int} {r : List Tok × Nat × Int} {w w' : World} (h : r = ([], k, z)) (hb : Below w.heap.size w w') : CutPost r w (.returned (.tuple #[.slice none 0 0, .int .i64 k, .int .i64 z])) w' := by
  subst h; exact ⟨⟨_, rfl, SAt.nil _ _ _⟩, hb⟩
theorem one_err {l : List UInt8} {z : Int} (h : oneL l = .error z) : z = 3 ∨ z = 4 ∨ z = 6 := by
  unfold oneL at h
  split at h
  · injection h with h; exact .inl h.symm
  · split at h
    · cases h
    · split at h
      · split at h
        · cases h
        · injection h with h; exact .inl h.symm
      · split at h
        · rcases num_err h with h | h
          · exact .inl h
          · exact .inr (.inr h)
        · split at h
          · split at h
            · injection h with h; exact .inr (.inl h.symm)
            · cases h
          · split at h
            · cases h
            · injection h with h; exact .inl h.symm
theorem bgr {B : Nat} {w wr w1 : World} {b : Nat} (hb : Below B w wr) (g : wr.grownBy w1 (some b)) (hB : B ≤ wr.heap.size) (hR : B ≤ b) : Below B w w1 :=
  ⟨g.os.trans hb.os, g.tape.trans hb.tape, g.output.trans hb.output, Nat.le_trans hb.size g.size, fun k hk => (g.block k (Nat.lt_of_lt_of_le hk hB) (by intro e; have := Option.some.inj e; omega)).trans (hb.block k hk)⟩
theorem news_tok (w : World) (o : Obj) (a0 a1 a2 : Value) (t : TypeId) : ∀ j u, ([a0, a1, a2] : List Value)[j]? = some u → ((w.alloc o).alloc (.cells #[a0, a1, a2] t)).cell? (Addr.add ⟨w.heap.size + 1, 0, none⟩ j) = some u := by
  intro j u h
  rw [show Addr.add ⟨w.heap.size + 1, 0, none⟩ j = ⟨w.heap.size + 1, j, none⟩ from by rw [Addr.add_lit, Nat.zero_add]]
  have := (Has.alloc (w.alloc o) [a0, a1, a2] t).1 j u h
  rwa [World.size_alloc] at this
theorem rdr_grown {w w' : World} {b : Nat} {s : ByteArray} {l : List UInt8} {o : Option Nat} (h : RdrL w b s l) (g : w.grownBy w' o) (hb : o = none ∨ o ≠ some b) : RdrL w' b s l := by
  obtain ⟨n, h1, h2, h3, h4, h5⟩ := h
  have hk := g.block b h5 (by rcases hb with rfl | hb; (exact fun e => nomatch e); (exact fun e => hb e.symm))
  exact ⟨n, h1, (World.cell?_of_block (w := w) (a := ⟨b, 0, none⟩) hk).trans h2, (World.cell?_of_block (w := w) (a := ⟨b, 1, none⟩) hk).trans h3, (World.frozen?_of_block (w := w) (a := ⟨b, 1, none⟩) hk).trans h4, Nat.lt_of_lt_of_le h5 g.size⟩
theorem toks_snoc (acc : List Tok) (t : Tok) : (acc ++ [t]).flatMap tokC = acc.flatMap tokC ++ tokC t := by simp
theorem toks_len : ∀ acc : List Tok, (acc.flatMap tokC).length = acc.length * 3
  | [] => rfl
  | t :: l => by have := toks_len l; simp only [List.flatMap_cons, List.length_append, this, tokC, List.length_cons, List.length_nil]; omega
theorem RdrL.at {w : World} {b : Nat} {s : ByteArray} {l : List UInt8} (h : RdrL w b s l) : Rdr w b s (s.size - l.length) ∧ l.length ≤ s.size := by
  obtain ⟨n, h1, h2⟩ := h
  have := h1.1
  rw [show s.size - l.length = n by omega]
  exact ⟨h2, by omega⟩

set_option maxHeartbeats 8000000 in
set_option maxRecDepth 20000 in
theorem cut_any (s : ByteArray) (m : Int) (te : TypeId) (pe : Value) (w : World) (hs : s.size ≤ 100000) (hm : w.cell? ⟨0, 0, none⟩ = some (.int .i64 m)) (hev : w.cell? ⟨5, 0, none⟩ = some (.iface te pe)) :
    Calls Tryd.prog 10 #[.string s] w (CutPost (cutL s.data.toList) w) := by
  have hsl : s.data.toList.length = s.size := by simp
  by_cases hbig : 2000 < s.size
  · have HFIN : Hid (cutL s.data.toList = ([], 0, 1)) := by unfold Hid cutL; rw [if_pos (by omega)]
    clear hsl
    go_enter Tryd.func10, Tryd.ntmps10
    go_wp2_with fail
    go_ret3
    exact CutPost.none' (k := 0) HFIN.out (Below.refl _ _)
  · have hs2 : s.size ≤ 2000 := by omega
    have h0 : cutL s.data.toList = cutEnd s.data.toList [] (cutR ([] : List Tok).length s.data.toList) := cutL_eq (by omega)
    obtain ⟨B, hB⟩ : ∃ B, B = w.heap.size := ⟨_, rfl⟩
    have hA := ba (Below.refl w.heap.size w) (.cells #[.string s, .int .i64 0] 60)
    have hpb : Has (w.alloc (.cells #[.string s, .int .i64 0] 60)) w.heap.size [.string s, .int .i64 0] := Has.alloc w _ _
    rw [← hB] at hpb
    have hmb : 0 < B := by rw [hB]; exact World.block_lt_of_cell? _ _ hm
    have heb : 5 < B := by rw [hB]; exact World.block_lt_of_cell? _ _ hev
    have hrd0 : RdrL (w.alloc (.cells #[.string s, .int .i64 0] 60)) B s s.data.toList := ⟨0, Rest.start s, hpb.two.1, hpb.two.2.1, hpb.two.2.2.2, hpb.2.2⟩
    have HM := Lib.hid hm; have HE := Lib.hid hev
    obtain ⟨W0, hW0⟩ : ∃ W0, W0 = w.alloc (.cells #[.string s, .int .i64 0] 60) := ⟨_, rfl⟩
    have hW0s : W0.heap.size = B + 1 := by rw [hW0, hB]; simp
    rw [← hW0] at hA hrd0
    have HA := Lib.hid hA; have HR0 := Lib.hid hrd0; have HB := Lib.hid hB.symm; have HW0 := Lib.hid hW0.symm; have H0 := Lib.hid h0; have HSL := Lib.hid hsl
    have hwB : w.heap.size ≤ B := by omega
    have hW0b : B + 1 ≤ W0.heap.size := by omega
    obtain ⟨i0, hi, hz0, hz1, hz2⟩ := info_parts infoTok
    have HI := Lib.hid hi; have HZ0 := Lib.hid hz0; have HZ1 := Lib.hid hz1; have HZ2 := Lib.hid hz2
    clear hi hz0 hz1 hz2 hA hpb hrd0 hm hev hW0 h0 hsl hB hbig hW0s
    go_enter Tryd.func10, Tryd.ntmps10
    go_wp2_with fail
    rw [HW0.out, HB.out]
    go_loopw [5] (fun v wr => ∃ (acc : List Tok) (rest : List UInt8), RdrL wr B s rest ∧ wr.ownsRow (B + 1) 31 3 v acc.length (acc.flatMap tokC) ∧ Hid (cutL s.data.toList = cutEnd s.data.toList acc (cutR acc.length rest)) ∧ acc.length ≤ 400 ∧ Below w.heap.size w wr ∧ B + 1 ≤ wr.heap.size) (fun _ wr => s.size - posAt wr B)
    case atStart => exact ⟨[], s.data.toList, HR0.out, World.ownsRow_nil _ _ _ _, H0.out, Nat.zero_le _, HA.out, hW0b⟩
    case round =>
      obtain ⟨acc, rest, hrd, hown, heq, hal, hbel, hsz⟩ := hrel
      have hmeas := Lib.hid hrd.len
      have hmr := moved HM.out hbel (Nat.le_refl _); have hevr := moved HE.out hbel (Nat.le_refl _)
      have HS := Lib.hid (skip_any B s rest m wr hs hrd hmb hmr)
      have HOWN := Lib.hid hown; have HBEL := Lib.hid hbel; have HEV := Lib.hid hevr
      have hwsz : w.heap.size ≤ wr.heap.size := hbel.size
      clear hrd hown hbel hmr hevr
      go_wp2_with fail
      refine HS.out.mono ?_
      rintro e w1 ⟨rfl, hrd1, hg1⟩
      have HOWN1 := Lib.hid (World.ownsRow.kept HOWN.out hg1 (row_ne HOWN.out (by omega)))
      have HBEL1 := Lib.hid (bgr HBEL.out hg1 hwsz hwB)
      have HEV1 := Lib.hid (cell_else' hg1 HEV.out heb)
      have hsz1 : B + 1 ≤ w1.heap.size := Nat.le_trans hsz hg1.size
      have HRD1 := Lib.hid hrd1
      obtain ⟨hat1, hle1⟩ := hrd1.at
      have HAT1 := Lib.hid hat1
      have hsk := skipL_le rest
      clear hg1 hrd1 hat1 HS HOWN HBEL HEV
      obtain ⟨r, hr⟩ : ∃ r, r = (skipL rest).2 := ⟨_, rfl⟩
      rw [← hr] at HRD1 HAT1 hle1 hsk
      obtain ⟨n, hn⟩ : ∃ n, n = s.size - r.length := ⟨_, rfl⟩
      rw [← hn] at HAT1
      have hnb : n + r.length = s.size := by omega
      have HN := Lib.hid hn; have HRR := Lib.hid hr
      obtain ⟨c0, c1, f1, hbw⟩ := HAT1.out
      clear hn hr
      cases hk : (skipL rest).1 with
      | false =>
        have HFIN : Hid (cutL s.data.toList = ([], n, 4)) := by
          unfold Hid
          rw [heq.out, cutR_torn hk, cutEnd_err, HSL.out, HN.out, HRR.out]
        clear hk heq
        go_wp2_with fail
        go_quiet (fail)
        go_wp2_with fail
        go_ret3
        exact CutPost.none' HFIN.out (bt HBEL1.out (below_drewN _ _))
      | true =>
        by_cases hnil : r = []
        · have HFIN : Hid (cutL s.data.toList = (acc, 0, 0)) := by
            unfold Hid
            rw [heq.out, cutR_end hk (by rw [← HRR.out]; exact hnil), cutEnd_ok, List.append_nil]
          have q : ((n : Int) == (s.size : Int)) = true := by
            have : r.length = 0 := by rw [hnil]; rfl
            exact beq_iff_eq.2 (by omega)
          clear hk heq hnil
          go_wp2_with fail
          go_ret3
          unfold CutPost
          rw [HFIN.out]
          exact ⟨⟨_, rfl, SAt.of_row (f := tokC) (hf := fun _ => rfl) HOWN1.out (fun b hb => by show w.heap.size ≤ b; omega)⟩, HBEL1.out⟩
        · have hrl : 0 < r.length := List.length_pos_iff.2 hnil
          have q : ((n : Int) == (s.size : Int)) = false := beq_eq_false_iff_ne.2 (by omega)
          by_cases h400 : acc.length = 400
          · have HFIN : Hid (cutL s.data.toList = ([], n, 5)) := by
              unfold Hid
              rw [heq.out, h400, cutR_full hk (by rw [← HRR.out]; exact hnil), cutEnd_err, HSL.out, HN.out, HRR.out]
            have HL : Hid (acc.length = 400) := h400
            obtain ⟨Gv, cv, hv⟩ : ∃ Gv cv, u5 = .slice Gv acc.length cv := by
              obtain ⟨g, cap, e, -⟩ := World.ownsRow.form HOWN1.out (by omega)
              exact ⟨_, _, e⟩
            subst hv
            have q4 : ((acc.length : Int) == 400) = true := beq_iff_eq.2 (by omega)
            clear hk heq hnil h400
            go_wp2_with fail
            go_ret3
            exact CutPost.none' HFIN.out HBEL1.out
          · obtain ⟨Gv, cv, hv⟩ : ∃ Gv cv, u5 = .slice Gv acc.length cv := by
              rcases HOWN1.out.2 with ⟨h1, h2⟩ | ⟨g, cap, _, h1, _⟩
              · exact ⟨none, 0, by rw [h1, h2]⟩
              · exact ⟨_, _, h1⟩
            subst hv
            have q4 : ((acc.length : Int) == 400) = false := beq_eq_false_iff_ne.2 (by omega)
            have hal4 : acc.length < 400 := by omega
            have HNE : Hid ((skipL rest).2 ≠ []) := by unfold Hid; rw [← HRR.out]; exact hnil
            have HK := Lib.hid hk
            cases r with
            | nil => exact absurd rfl hnil
            | cons c t =>
              have HON := Lib.hid (one_any B s c t te pe w1 hs HRD1.out heb HEV1.out)
              clear hk hnil
              go_wp2_with fail
              refine HON.out.mono ?_
              intro e w5 hp
              unfold OnePost at hp
              obtain ⟨hp, hg5⟩ := hp
              have HBEL5 := Lib.hid (bgr HBEL1.out hg5 HBEL1.out.size hwB)
              have HOWN5 := Lib.hid (World.ownsRow.kept HOWN1.out hg5 (row_ne HOWN1.out (by omega)))
              have hsz5 : B + 1 ≤ w5.heap.size := Nat.le_trans hsz1 hg5.size
              clear hg5 HON c0 c1 f1 hbw
              cases ho : oneL (c :: t) with
              | error z =>
                rw [ho] at hp
                obtain rfl := hp
                have hz := one_err ho
                have HFIN : Hid (cutL s.data.toList = ([], n, z)) := by
                  unfold Hid
                  rw [heq.out, cutR_bad HK.out HNE.out (by omega) (by rw [← HRR.out]; exact ho), cutEnd_err, HSL.out, HN.out, HRR.out]
                clear ho heq
                rcases hz with rfl | rfl | rfl
                all_goals
                  go_wp2_with fail
                  go_ret3
                  exact CutPost.none' HFIN.out (ba HBEL5.out _)
              | ok p =>
                rw [ho] at hp
                obtain ⟨rfl, hrd5⟩ := hp
                obtain ⟨⟨k, x, v⟩, r'⟩ := p
                have HRD5 : Hid (RdrL w5 B s r') := hrd5
                have hlt5 := oneL_lt ho
                have HEQ : Hid (cutL s.data.toList = cutEnd s.data.toList (acc ++ [⟨k, x, v⟩]) (cutR (acc.length + 1) r')) := by
                  unfold Hid
                  rw [heq.out, cutR_one HK.out HNE.out (by omega) (by rw [← HRR.out]; exact ho), cutEnd_map]
                have HLT : Hid (r'.length < (c :: t).length) := hlt5
                have HTL := toks_len acc
                have HTS : Hid ((acc ++ [(⟨k, x, v⟩ : Tok)]).flatMap tokC = acc.flatMap tokC ++ [.int .i64 k, .string ⟨x.toArray⟩, .int .i64 v]) := toks_snoc acc _
                obtain ⟨L, hL⟩ : ∃ L, L = acc.flatMap tokC := ⟨_, rfl⟩
                rw [← hL] at HOWN5 HTL HTS
                clear ho heq hrd5 hL hlt5 HOWN1 HNE HK
                go_wp2_with (at_builtin; refine wpList_append_lies _ (by rfl) _ _ _ (by rfl) (B + 1) 31 i0 _ 3 32 Tryd.underlying23 HI.out HZ0.out HZ1.out HZ2.out rfl (by omega) (.slice Gv acc.length cv) acc.length L (by rfl) ((HOWN5.out.alloc _).alloc _) ⟨w5.heap.size + 1, 0, none⟩ 1 1 [.int .i64 k, .string ⟨x.toArray⟩, .int .i64 v] (by rfl) (by rfl) (news_tok w5 _ _ _ _ _) (by simp [Value.oneCell']) (by omega) (by unfold maxLen; omega) (by omega) (by simp; omega) (w5.heap.size + 2) (by simp) ?_)
                intro g cap w6 hown6 hgrow hat hlt6
                rw [← HTS.out] at hown6
                have hba := ba (ba (Below.refl w5.heap.size w5) (.cells #[.int .i64 k, .string ⟨x.toArray⟩, .int .i64 v] 31)) (.cells #[.int .i64 k, .string ⟨x.toArray⟩, .int .i64 v] 31)
                have hrow6 := HOWN5.out
                have hb6 : Below w.heap.size w w6 := below_row (bt HBEL5.out hba) (Nat.le_refl _) (row_down hrow6 hba) (by omega) hgrow
                have hrd6 : RdrL w6 B s r' := rdr_grown (HRD5.out.below hba) hgrow (row_ne (row_down hrow6 hba) (by omega))
                have HRD6 := Lib.hid hrd6; have HB6 := Lib.hid hb6; have HOWN6 := Lib.hid hown6
                have hsz6 : B + 1 ≤ w6.heap.size := Nat.le_trans (Nat.le_trans hsz5 hba.size) hgrow.size
                clear hown6 hgrow hat hlt6 hba hrow6 hb6 hrd6
                go_wp2_with fail
                go_roundw
                case rel => exact ⟨acc ++ [⟨k, x, v⟩], r', HRD6.out, by rw [List.length_append]; exact HOWN6.out, by rw [List.length_append]; exact HEQ.out, by rw [List.length_append, List.length_singleton]; omega, HB6.out, hsz6⟩
                case measure =>
                  have h1 := HRD6.out.len
                  have h2 := hmeas.out
                  have h3 := HLT.out
                  omega
end Go.Proofs.YtpjiiipabbchiaaDoor.Tk
