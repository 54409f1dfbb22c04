/-
  DERIVED. LetterNamed: the walk.
-/
import Derived.Test.YtkchoempejdleaaDoorNamedPlain
import Derived.Test.YtkchoempejdleaaDoorFixPlain
import Derived.Deep.AppendLies
namespace Go.Proofs.YtkchoempejdleaaDoor
open Go.RowKit

theorem hasB_down {w w' : World} {b : Nat} {l : List UInt8} (h : HasB w b l) (hb : Below w.heap.size w w') (hlt : b < w.heap.size) : HasB w' b l :=
  ⟨fun j hj => (hb.cell (p := ⟨b, j, none⟩) hlt).trans (h.1 j hj), fun j hj => (hb.frozen (p := ⟨b, j, none⟩) hlt).trans (h.2 j hj)⟩
theorem lie_row {w : World} {base e size n : Nat} {v : Value} {l : List Value} (h : w.ownsRow base e size v n l) : ∃ G cap, v = .slice G n cap := by
  rcases h.2 with ⟨h, h0⟩ | ⟨g, cap, _, h, _⟩
  · exact ⟨none, 0, by rw [h, h0]⟩
  · exact ⟨_, cap, h⟩
/-- a row apart from what was written -/
theorem row_kept {w w' : World} {base e size n lo : Nat} {v : Value} {l : List Value} {o : Option Nat} (h : w.ownsRow base e size v n l) (g : w.grownBy w' o) (ho : ∀ k, o = some k → k < lo) (hb : lo ≤ base) : w'.ownsRow base e size v n l :=
  h.kept g (by
    cases hv : v.ownBlock with
    | none => exact .inl rfl
    | some k =>
      refine .inr fun e => ?_
      have h1 := (h.lt k hv).1
      have h2 := ho k e.symm
      omega)
theorem flds_cells {w : World} {G : Option Addr} {n c : Nat} {fs : List Fld} (h : FldsAt w (.slice G n c) fs) (j : Nat) (hj : j < fs.length) : ∃ g, G = some ⟨g, 0, none⟩ ∧ w.cell? ⟨g, j * 2, none⟩ = some (.string ⟨fs[j].1.toArray⟩) ∧ w.cell? ⟨g, j * 2 + 1, none⟩ = some (.string ⟨fs[j].2.toArray⟩) := by
  obtain ⟨G', c', hv, hf⟩ := h
  injection hv with hG _ _
  subst hG
  obtain ⟨g, hG, _, h0, h1⟩ := hf j fs[j] (List.getElem?_eq_getElem hj)
  exact ⟨g, hG, h0, h1⟩
theorem below_row2 {w wr w' : World} {base e size n : Nat} {v : Value} {l : List Value} (hb : Below w.heap.size w wr) (h : wr.ownsRow base e size v n l) (hB : w.heap.size ≤ base) (g : wr.grownBy w' v.ownBlock) : Below w.heap.size w w' := below_row hb (Nat.le_refl _) h hB g
theorem row_len {w : World} {base e size n n' : Nat} {v : Value} {l : List Value} (hn : n = n') (h : w.ownsRow base e size v n l) : w.ownsRow base e size v n' l := hn ▸ h
theorem showF_len2 (fs : List Fld) (n : List UInt8) : (showF (fs ++ [(n, [118])])).length = (showF fs).length + n.length + 5 := by
  rw [showF_app, showF_cons]
  show _ + (n.length + 1 + 4 + 0) = _
  omega
theorem values_walk (fs : List Fld) (v : Value) (nm : ByteArray) (ls : List (List UInt8)) (m : Int) (w : World) (hv : FldsAt w v fs) (hgood : ∀ f ∈ fs, Good f) (hlen : fs.length ≤ 30) (hsz : (showF fs).length ≤ 1000) (hnm : nm.size ≤ 100) (hls : valsL fs nm.data.toList = ls) (hm : w.cell? ⟨0, 0, none⟩ = some (.int .i64 m)) :
    Calls Tryd.prog 27 #[.agg #[v, .string ⟨#[]⟩], .string nm] w fun e w' => (∃ u, e = .returned (.tuple #[u, .int .i64 0]) ∧ w'.ownsRow w.heap.size 9 1 u ls.length (scells ls)) ∧ Below w.heap.size w w' := by
  have e0 : (⟨#[]⟩ : ByteArray).size = 0 := rfl
  have h := values_any fs v ⟨#[]⟩ nm m w hv hgood hlen (by omega) hnm hm
  rw [hls] at h
  exact h
theorem named_good (fs : List Fld) (NL : List UInt8) (hg : ∀ f ∈ fs, Good f) (hn : nameOK NL = true) : ∀ f ∈ fs ++ [(NL, [118])], Good f := by
  intro f hf
  rcases List.mem_append.1 hf with h | h
  · exact hg f h
  · obtain rfl := List.mem_singleton.1 h
    exact ⟨hn, by show sepL [13, 10] [118] = none; decide, by show trimV [118] = [118]; decide⟩

set_option maxHeartbeats 16000000 in
set_option maxRecDepth 20000 in
theorem letterNamedWalk (a : Option Addr) (len cap : Nat) (x : Nat → Nat → ByteArray) (name : ByteArray) (m : Int) (w : World) (hx : StrRows w a len 2 x) (hlen : len ≤ maxLen) (hname : name.size ≤ maxLen) (hm : w.cell? ⟨0, 0, none⟩ = some (.int .i64 m)) :
    Calls Tryd.prog 13 #[.slice a len cap, .string name] w fun e w' => e = .returned (.bool true) ∧ Below w.heap.size w w' := by
  have hMs := message_any a len cap x ⟨#[]⟩ w hx hlen (Nat.zero_le _)
  rw [show (⟨((⟨#[]⟩ : ByteArray).data.toList.take 200).toArray⟩ : ByteArray) = ⟨#[]⟩ from rfl] at hMs
  have hg := msg_good x (min len 6)
  have hlo := msg_low x (min len 6)
  have hmf := msg_fld' x (min len 6)
  have hl6 : (msgL x (min len 6)).length ≤ 6 := by rw [msgL_len]; omega
  have hsz0 := msg_size x (min len 6)
  obtain ⟨fs, hfs⟩ : ∃ fs, fs = msgL x (min len 6) := ⟨_, rfl⟩
  have hfl : min len 6 = fs.length := by rw [hfs, msgL_len]
  rw [← hfs] at hMs hg hl6 hsz0 hlo hmf
  rw [hfl] at hMs
  have mL : maxLen ≤ 9223372036854775807 := by decide
  obtain ⟨i0, hi, hz0, hz1, hz2⟩ := info_parts infoStr
  have HI := Lib.hid hi; have HZ0 := Lib.hid hz0; have HZ1 := Lib.hid hz1; have HZ2 := Lib.hid hz2
  clear hi hz0 hz1 hz2
  obtain ⟨i1, hi, hz0, hz1, hz2⟩ := info_parts infoFld
  have HI1 := Lib.hid hi; have HJ0 := Lib.hid hz0; have HJ1 := Lib.hid hz1; have HJ2 := Lib.hid hz2
  clear hi hz0 hz1 hz2
  obtain ⟨N0, hN0⟩ : ∃ N0 : ByteArray, N0 = ⟨(wordL name.data.toList).toArray⟩ := ⟨_, rfl⟩
  have HWd : Hid (∀ w, Calls Tryd.prog 20 #[.string name] w fun e w' => e = .returned (.string N0) ∧ Below w.heap.size w w') := by rw [hN0]; exact fun w => word_any name w (Nat.le_trans hname mL)
  have HN0 : Hid (Low N0.data.toList ∧ nameOK N0.data.toList = true ∧ N0.size ≤ 8) := by rw [hN0]; exact ⟨word_low _, word_name _, addrL_size _⟩
  have HPk : Hid (0 < fs.length → ∃ p, p < fs.length ∧ ∀ w, Calls Tryd.prog 17 #[.int .i64 name.size, .int .i64 fs.length] w fun e w' => e = .returned (.int .i64 p) ∧ w' = w) := fun h =>
    ⟨pick name.size fs.length, pick_lt _ fs.length h, fun w => (picked_any _ _ w (by omega) (by omega) (by omega) (by omega)).mono fun _ _ h => ⟨h.1, h.2.symm⟩⟩
  have HG : Hid ((∀ f ∈ fs, Good f) ∧ (∀ f ∈ fs, Low f.1) ∧ (∀ f ∈ fs, f.1.length ≤ 8 ∧ nameOK f.1 = true) ∧ (showF fs).length ≤ 312) := ⟨hg, hlo, hmf, by omega⟩
  have HMs := Lib.hid hMs
  have hM := Lib.hid hm
  have hname' : name.size ≤ 9223372036854775807 := Nat.le_trans hname mL
  clear hMs hg hlo hmf hsz0 hfs hfl hm hx hN0 hname mL
  go_enter Tryd.func13, Tryd.ntmps13
  go_wp2_with fail
  refine HMs.out.mono ?_
  rintro e w1 ⟨⟨v, rfl, hrow⟩, hw1⟩
  have P1 := Pair.alloc w1 v (.string ⟨#[]⟩) 45
  have ha := ba (Below.refl _ w1) (.cells #[v, .string ⟨#[]⟩] 45)
  have hz1 : (w1.alloc (.cells #[v, .string ⟨#[]⟩] 45)).heap.size = w1.heap.size + 1 := by simp
  have hrow1 := row_down hrow ha
  have hlie : Lies v w.heap.size w1.heap.size := hrow.lt
  have hw1' := bt hw1 ha
  obtain ⟨G, c, hvv⟩ := lie_row hrow
  subst hvv
  clear hrow
  go_wp2_with fail
  refine (HWd.out _).mono ?_
  rintro e w2 ⟨rfl, hb2⟩
  have P2 := pair_down P1 hb2
  have row2 := row_down hrow1 hb2
  have hw2 := bt hw1' hb2
  have hs2 : w1.heap.size + 1 ≤ w2.heap.size := by have := hb2.size; omega
  clear P1 hrow1 ha hb2 hz1 hw1'
  have P2' := P2
  obtain ⟨c0, c1, f0, f1, hl1⟩ := P2
  by_cases hn0 : 0 < fs.length
  · obtain ⟨p, hp, hpk⟩ := HPk.out hn0
    have hpk := Lib.hid hpk
    obtain ⟨g, cx, hgv, hg1, hg2⟩ := World.ownsRow.form row2 hn0
    injection hgv with hG _ hcx
    subst hG; subst hcx
    have hcell := (row2.cellAt (p * 2) (by omega)).trans (fcells_at fs p fs[p] (List.getElem?_eq_getElem hp)).1
    obtain ⟨NM, hNM⟩ : ∃ NM : ByteArray, NM = ⟨fs[p].1.toArray⟩ := ⟨_, rfl⟩
    have HNM : Hid (Low NM.data.toList ∧ nameOK NM.data.toList = true ∧ NM.size ≤ 8) := by
      have hmem := List.getElem_mem hp
      rw [hNM]
      refine ⟨HG.out.2.1 _ hmem, (HG.out.2.2.1 _ hmem).2, ?_⟩
      show (List.toArray _).size ≤ 8
      rw [List.size_toArray]; exact (HG.out.2.2.1 _ hmem).1
    rw [← hNM] at hcell
    clear hNM
    go_wp2_with fail
    go_quiet ((go_at_call 17; exact Calls.quiet_of_same (hpk.out _)))
    have hnq := below_drewN (Below.refl w2.heap.size w2) nq
    have PA := pair_down P2' hnq
    have rowA := row_down row2 hnq
    have hwA := bt hw2 hnq
    have hsA : w1.heap.size + 1 ≤ (w2.drewN nq).heap.size := Nat.le_trans hs2 hnq.size
    obtain ⟨G, hGG⟩ : ∃ G : Option Addr, G = some ⟨g, 0, none⟩ := ⟨_, rfl⟩
    obtain ⟨wA, hwa⟩ : ∃ wA, wA = w2.drewN nq := ⟨_, rfl⟩
    rw [← hGG] at PA rowA hlie ⊢
    rw [← hwa] at PA rowA hwA hsA ⊢
    clear hGG hwa hnq P2' row2 hcell c0 c1 f0 f1 hl1 hw2 hs2 hpk hg1 hg2 hp
    go_wp2_with fail
    go_loopw [7, 8] (fun u i wr => ∃ j : Nat, j ≤ fs.length ∧ i = .int .i64 j ∧ wr.ownsRow wA.heap.size 9 1 u (wantL (fs.take j) NM.data.toList).length (scells (wantL (fs.take j) NM.data.toList)) ∧ Below wA.heap.size wA wr) (fun _ i _ => fs.length - (intOf i).toNat)
    case atStart => exact ⟨0, Nat.zero_le _, rfl, World.ownsRow_nil _ _ _ _, Below.refl _ _⟩
    case round =>
      obtain ⟨j, hj, rfl, hown, hbw⟩ := hrel
      have PB := PA.below hbw PA.2.2.2.2
      have rowB := row_down rowA hbw
      have hwB := bt hwA hbw
      have hsB : w1.heap.size + 1 ≤ wr.heap.size := Nat.le_trans hsA hbw.size
      by_cases hlt : j < fs.length
      · obtain ⟨g, hG, e0, e1⟩ := flds_cells (FldsAt.of_row rowB) j hlt
        obtain ⟨N, hN⟩ : ∃ N : ByteArray, N = ⟨fs[j].1.toArray⟩ := ⟨_, rfl⟩
        obtain ⟨V, hV⟩ : ∃ V : ByteArray, V = ⟨fs[j].2.toArray⟩ := ⟨_, rfl⟩
        have hit : N = NM → scells (wantL (fs.take (j + 1)) NM.data.toList) = scells (wantL (fs.take j) NM.data.toList) ++ [.string V] ∧ (wantL (fs.take (j + 1)) NM.data.toList).length = (wantL (fs.take j) NM.data.toList).length + 1 := by
          intro h
          rw [want_take_hit fs NM.data.toList j hlt (by rw [← h, hN]; exact beq_self_eq_true _), hV]
          exact ⟨scells_snoc _ _, by simp⟩
        have miss : ¬ N = NM → wantL (fs.take (j + 1)) NM.data.toList = wantL (fs.take j) NM.data.toList := by
          intro h
          refine want_take_miss fs NM.data.toList j hlt (beq_eq_false_iff_ne.2 fun e => h ?_)
          rw [hN, e]
        rw [← hN] at e0
        rw [← hV] at e1
        subst hG
        obtain ⟨c0, c1, f0, f1, hl1⟩ := PB
        clear hN hV rowB hwB
        by_cases hNN : N = NM
        · have hv1 := Lib.hid (hit hNN).1
          have hv2 := Lib.hid (hit hNN).2
          have hvl : (wantL (fs.take j) NM.data.toList).length ≤ 6 := by
            have h1 := want_len (fs.take j) NM.data.toList
            rw [List.length_take] at h1
            omega
          obtain ⟨L, hL⟩ : ∃ L, L = wantL (fs.take j) NM.data.toList := ⟨_, rfl⟩
          rw [← hL] at hown hvl
          have HL := Lib.hid hL
          have hcl := scells_len L
          clear hit miss hL
          subst hNN
          go_wp2_with (at_builtin; refine wpList_append_lies _ (by rfl) _ _ _ (by rfl) wA.heap.size 9 i0 _ 1 16 Tryd.underlying39 HI.out HZ0.out HZ1.out HZ2.out rfl (by omega) u7 L.length (scells L) (by rfl) (hown.alloc _) ⟨wr.heap.size, 0, none⟩ 1 1 [.string V] (by rfl) (by rfl) (World.news_of_block (cs := #[.string V]) (t := 9) (fr := (0, 0)) (heap_alloc_new wr _)) (by simp [Value.oneCell']) (by omega) (by unfold maxLen; omega) (by omega) (by simp; exact Nat.le_succ_of_le hbw.size) (wr.heap.size + 1) (by simp) ?_)
          intro g2 cap2 w4 hown4 hgrow _ hglt
          have lb := below_row2 (hbw.alloc hbw.size (.cells #[.string V] 9)) (hown.alloc (.cells #[.string V] 9)) (Nat.le_refl _) hgrow
          obtain ⟨V', hV'⟩ : ∃ V' : Value, V' = .slice (some ⟨g2, 0, none⟩) (L.length + 1) cap2 := ⟨_, rfl⟩
          have hle := hv2.out
          rw [← HL.out] at hle
          have hce := hv1.out
          rw [← HL.out] at hce
          have hown5 := hown4
          rw [← hce] at hown5
          have hown6 := row_len hle.symm hown5
          clear hown4 hown5 hgrow hglt hle hce hown c0 c1 f0 f1 hl1 e0 e1 hV'
          go_wp2_with fail
          go_roundw
          case rel => exact ⟨j + 1, by omega, by go_num, hown6, lb⟩
          case measure => simp [intOf]; omega
        · have hv2 := Lib.hid (miss hNN)
          have hd : (N.toList == NM.toList) = false := beq_eq_false_iff_ne.2 (fun e => hNN (ByteArray.ext (Array.toList_inj.1 (by rw [ByteArray.toList_eq, ByteArray.toList_eq] at e; exact e))))
          clear hit miss
          go_wp2_with fail
          go_roundw
          case rel => exact ⟨j + 1, by omega, by go_num, by rw [hv2.out]; exact hown, hbw⟩
          case measure => simp [intOf]; omega
      · obtain rfl : j = fs.length := by omega
        rw [List.take_length] at hown
        obtain ⟨wB, hwb⟩ : ∃ wB, wB = wr := ⟨_, rfl⟩
        subst hwb
        obtain ⟨hNlow, hNok, hNs⟩ := HNM.out
        have hva : valsL fs NM.data.toList = wantL fs NM.data.toList := vals_want fs _ _ HG.out.2.1 (fold_low hNlow)
        have hvg : ∀ GR : ByteArray, GR.data.toList = greatL NM.data.toList → valsL fs GR.data.toList = wantL fs NM.data.toList := fun GR h => vals_want fs _ _ HG.out.2.1 (by rw [h]; exact fold_great hNlow)
        have hvm : (valsL (fs ++ [(NM.data.toList, [118])]) NM.data.toList).length = (wantL fs NM.data.toList).length + 1 := by
          rw [vals_want (fs ++ [(NM.data.toList, [118])]) NM.data.toList NM.data.toList ?_ (fold_low hNlow)]
          · exact want_more fs _ _
          · intro f hf
            rcases List.mem_append.1 hf with h | h
            · exact HG.out.2.1 f h
            · obtain rfl := List.mem_singleton.1 h
              exact hNlow
        have hwl := want_len fs NM.data.toList
        obtain ⟨ls, hls⟩ : ∃ ls, ls = wantL fs NM.data.toList := ⟨_, rfl⟩
        rw [← hls] at hown hva hvg hvm hwl
        obtain ⟨lm, hlm⟩ : ∃ lm, lm = valsL (fs ++ [(NM.data.toList, [118])]) NM.data.toList := ⟨_, rfl⟩
        rw [← hlm] at hvm
        have HVa : Hid (∀ v w, FldsAt w v fs → w.cell? ⟨0, 0, none⟩ = some (.int .i64 m) → Calls Tryd.prog 27 #[.agg #[v, .string ⟨#[]⟩], .string NM] w fun e w' => (∃ u, e = .returned (.tuple #[u, .int .i64 0]) ∧ w'.ownsRow w.heap.size 9 1 u ls.length (scells ls)) ∧ Below w.heap.size w w') :=
          fun v w h1 h2 => values_walk fs v NM ls m w h1 HG.out.1 (by omega) (by have := HG.out.2.2.2; omega) (by omega) hva h2
        have HVg : Hid (∀ GR : ByteArray, GR.data.toList = greatL NM.data.toList → ∀ v w, FldsAt w v fs → w.cell? ⟨0, 0, none⟩ = some (.int .i64 m) → Calls Tryd.prog 27 #[.agg #[v, .string ⟨#[]⟩], .string GR] w fun e w' => (∃ u, e = .returned (.tuple #[u, .int .i64 0]) ∧ w'.ownsRow w.heap.size 9 1 u ls.length (scells ls)) ∧ Below w.heap.size w w') :=
          fun GR hGR v w h1 h2 => values_walk fs v GR ls m w h1 HG.out.1 (by omega) (by have := HG.out.2.2.2; omega) (by
            have h1 : GR.size = GR.data.toList.length := by simp
            have h2 : NM.data.toList.length = NM.size := by simp
            rw [h1, hGR, greatL_length]; omega) (hvg GR hGR) h2
        have HVm : Hid (∀ v w, FldsAt w v (fs ++ [(NM.data.toList, [118])]) → w.cell? ⟨0, 0, none⟩ = some (.int .i64 m) → Calls Tryd.prog 27 #[.agg #[v, .string ⟨#[]⟩], .string NM] w fun e w' => (∃ u, e = .returned (.tuple #[u, .int .i64 0]) ∧ w'.ownsRow w.heap.size 9 1 u (ls.length + 1) (scells lm)) ∧ Below w.heap.size w w') := fun v w h1 h2 => by
          have := values_walk (fs ++ [(NM.data.toList, [118])]) v NM lm m w h1 (named_good fs _ HG.out.1 hNok) (by simp; omega) (by
            have h3 := HG.out.2.2.2
            have h4 : NM.data.toList.length = NM.size := by simp
            rw [showF_len2]
            omega) (by omega) hlm.symm h2
          rw [hvm] at this
          exact this
        have HE : Hid (∀ u1 u2 w, TxtAt w u1 ls → TxtAt w u2 ls → Calls Tryd.prog 28 #[u1, u2] w fun e w' => e = .returned (.bool true) ∧ Below w.heap.size w w') := fun u1 u2 w h1 h2 => texts_any _ u1 u2 w h1 h2 (by omega)
        clear hva hvg hvm hlm hls hNok
        have kc := Lib.run_convert_string_bytes (P := Tryd.prog) wB 9 60 5 NM Tryd.underlying9 Tryd.underlying60 Tryd.underlying5
        have hH := HasB.fresh wB 5 NM
        have hBw := bytesWorld_below wB 5 NM
        obtain ⟨cpb, hcpb⟩ : ∃ cpb, cpb = grownCap wB NM.size 0 5 := ⟨_, rfl⟩
        have hsz9 : wB.heap.size < (Lib.bytesWorld wB 5 NM).heap.size := by rw [Lib.bytesWorld_size]; omega
        obtain ⟨wC, hwC⟩ : ∃ wC, wC = Lib.bytesWorld wB 5 NM := ⟨_, rfl⟩
        rw [← hcpb, ← hwC] at kc
        rw [← hwC] at hH hBw hsz9
        clear hcpb hwC
        have hls : NM.size = NM.data.toList.length := by simp
        rw [hls] at kc
        obtain ⟨l, hl⟩ : ∃ l, l = NM.data.toList := ⟨_, rfl⟩
        rw [← hl] at kc hH hNlow HVg
        have hl8 : l.length ≤ 8 := by rw [hl, ← hls]; exact hNs
        obtain ⟨Gw, cw, hu⟩ := lie_row hown
        subst hu
        clear hls hl
        have PB' := PB
        obtain ⟨c0, c1, f0, f1, hl1⟩ := PB'
        go_wp2_with fail
        clear c0 c1 f0 f1 hl1 kc
        go_loopw [10] (fun i wx => ∃ k : Nat, k ≤ l.length ∧ i = .int .i64 k ∧ HasB wx wB.heap.size (greatTo l k) ∧ Below wB.heap.size wB wx ∧ wB.heap.size < wx.heap.size) (fun i _ => l.length - (intOf i).toNat)
        case atStart => exact ⟨0, Nat.zero_le _, rfl, by rw [greatTo_zero]; exact hH, hBw, hsz9⟩
        case round =>
          clear hH hBw hsz9
          obtain ⟨k, hk, rfl, hh, hbx, hszx⟩ := hrel
          by_cases hlt2 : k < l.length
          · have hc : wr.cell? ⟨wB.heap.size, k, none⟩ = some (.int .u8 (l[k].toNat : Int)) := by
              rw [hh.1 k (by rw [greatTo_length]; exact hlt2), greatTo_get l k hlt2]
            have hf : wr.frozen? ⟨wB.heap.size, k, none⟩ = false := hh.2 k (by rw [greatTo_length]; exact hlt2)
            have hk97 := hNlow l[k] (List.getElem_mem hlt2)
            have hst : HasB (wr.setCell ⟨wB.heap.size, k, none⟩ (.int .u8 ((l[k] - 32).toNat : Int))) wB.heap.size (greatTo l (k + 1)) := greatTo_step l k hlt2 ▸ hh.stored k (l[k] - 32)
            rw [great_nat l[k] hk97] at hst
            have HS := Lib.hid hst
            obtain ⟨h97, h122⟩ := hk97
            clear hst hh
            go_wp2_with fail
            go_roundw
            case rel => exact ⟨k + 1, by omega, by go_num, HS.out, hbx.setCell (Nat.le_refl _) _, by simpa [World.setCell] using hszx⟩
            case measure => simp [intOf]; omega
          · obtain rfl : k = l.length := by omega
            rw [greatTo_all] at hh
            have PD := pair_down PB hbx
            have rowD := row_down rowB hbx
            have ownD := row_down hown hbx
            have hwD := bt hwB hbx
            have hsD : w1.heap.size + 1 ≤ wr.heap.size := Nat.le_trans hsB hbx.size
            have PD' := PD
            obtain ⟨c0, c1, f0, f1, hl1⟩ := PD'
            clear PB rowB hown hwB
            go_wp2_with fail
            refine (HVa.out _ _ (FldsAt.of_row rowD) (moved hM.out hwD (Nat.le_refl _))).mono ?_
            rintro e w5 ⟨⟨ua, rfl, rowa⟩, hb5⟩
            have PE := pair_down PD hb5
            have rowE := row_down rowD hb5
            have ownE := row_down ownD hb5
            have hwE := bt hwD hb5
            have hh5 := hasB_down hh hb5 hszx
            have hsE : w1.heap.size + 1 ≤ w5.heap.size := Nat.le_trans hsD hb5.size
            have hcv := hh5.str cpb Tryd.underlying60 Tryd.underlying5 Tryd.underlying9
            rw [greatL_length] at hcv
            obtain ⟨GR, hGR⟩ : ∃ GR : ByteArray, GR = ⟨(greatL l).toArray⟩ := ⟨_, rfl⟩
            rw [← hGR] at hcv
            have hGl : GR.data.toList = greatL l := by rw [hGR]
            have PE' := PE
            clear c0 c1 f0 f1 hl1 PD rowD ownD hGR
            obtain ⟨c0, c1, f0, f1, hl1⟩ := PE'
            go_wp2_with fail
            refine (HVg.out GR hGl _ _ (FldsAt.of_row rowE) (moved hM.out hwE (Nat.le_refl _))).mono ?_
            rintro e w6 ⟨⟨ub, rfl, rowb⟩, hb6⟩
            have PF := pair_down PE hb6
            have rowF := row_down rowE hb6
            have ownF := row_down ownE hb6
            have rowaF := row_down rowa hb6
            have hwF := bt hwE hb6
            have hsF : w1.heap.size + 1 ≤ w6.heap.size := Nat.le_trans hsE hb6.size
            have PF' := PF
            clear c0 c1 f0 f1 hl1 PE rowE ownE rowa hcv hh hh5 hGl
            obtain ⟨c0, c1, f0, f1, hl1⟩ := PF'
            have hcl := fcells_length fs
            go_wp2_with (at_builtin; refine wpList_append_lies _ (by rfl) _ _ _ (by rfl) w.heap.size 48 i1 _ 2 32 Tryd.underlying43 HI1.out HJ0.out HJ1.out HJ2.out rfl (by omega) (.slice G fs.length c) fs.length (fcells fs) (by rfl) (rowF.alloc _) ⟨w6.heap.size, 0, none⟩ 1 1 [.string NM, .string ⟨#[118]⟩] (by rfl) (by rfl) (World.news_of_block (cs := #[.string NM, .string ⟨#[118]⟩]) (t := 48) (fr := (0, 0)) (heap_alloc_new w6 _)) (by simp [Value.oneCell']) (by omega) (by unfold maxLen; omega) (by omega) (by simp; exact Nat.le_succ_of_le hwF.size) (w6.heap.size + 1) (by simp) ?_)
            intro g2 cap2 w8 row8 hgrow hat hglt
            have hsn : fcells (fs ++ [(NM.data.toList, [118])]) = fcells fs ++ [.string NM, .string ⟨#[118]⟩] := fcells_snoc fs _
            rw [← hsn] at row8
            have ho : ∀ k, (Value.slice G fs.length c).ownBlock = some k → k < w1.heap.size := fun k hk => (hlie k hk).2
            have ap := ba (Below.refl _ w6) (.cells #[.string NM, .string ⟨#[118]⟩] 48)
            have PG := (PF.below ap PF.2.2.2.2).kept hgrow (by intro e; have := ho _ e.symm; omega)
            have gA := row_kept (rowaF.alloc (.cells #[.string NM, .string ⟨#[118]⟩] 48)) hgrow ho (by omega)
            have gB := row_kept (rowb.alloc (.cells #[.string NM, .string ⟨#[118]⟩] 48)) hgrow ho (by omega)
            have gW := row_kept (ownF.alloc (.cells #[.string NM, .string ⟨#[118]⟩] 48)) hgrow ho (by omega)
            have hw8 := below_row2 (ba hwF (.cells #[.string NM, .string ⟨#[118]⟩] 48)) (rowF.alloc (.cells #[.string NM, .string ⟨#[118]⟩] 48)) (Nat.le_refl _) hgrow
            have hg2 : g2 ≠ w1.heap.size := by
              rcases hat with h | h
              · have := ho g2 h; omega
              · omega
            have hlow9 : w.heap.size ≤ w1.heap.size := hw1.size
            have row9 : (w8.setCell ⟨w1.heap.size, 0, none⟩ (.slice (some ⟨g2, 0, none⟩) (fs.length + 1) cap2)).ownsRow w.heap.size 48 2 (.slice (some ⟨g2, 0, none⟩) (fs.length + 1) cap2) (fs.length + 1) (fcells (fs ++ [(NM.data.toList, [118])])) :=
              row8.kept (Go.Lib.grownBy_setB (World.grownBy.refl w8 (some w1.heap.size)) 0 _) (.inr (by intro e; exact hg2 (Option.some.inj e)))
            have PH := PG.set0 (.slice (some ⟨g2, 0, none⟩) (fs.length + 1) cap2)
            have hA9 := row_else gA (show w1.heap.size < _ by omega) 0 (.slice (some ⟨g2, 0, none⟩) (fs.length + 1) cap2)
            have hB9 := row_else gB (show w1.heap.size < _ by omega) 0 (.slice (some ⟨g2, 0, none⟩) (fs.length + 1) cap2)
            have hW9 := row_else gW (show w1.heap.size < _ by omega) 0 (.slice (some ⟨g2, 0, none⟩) (fs.length + 1) cap2)
            have hw9 := hw8.setCell (p := ⟨w1.heap.size, 0, none⟩) (by show w.heap.size ≤ w1.heap.size; exact hlow9) (.slice (some ⟨g2, 0, none⟩) (fs.length + 1) cap2)
            have f9 : FldsAt _ _ (fs ++ [(NM.data.toList, [118])]) := FldsAt.of_row (row_len (show fs.length + 1 = (fs ++ [(NM.data.toList, [118])]).length by simp) row9)
            clear c0 c1 f0 f1 hl1 PF row8 row9 gA gB gW hw8 hgrow hat hglt hsn ap ho rowF rowb ownF rowaF hwF hg2 hlow9
            obtain ⟨d0, d1, i0', i1', hd1⟩ := PH
            obtain ⟨c0, c1, f0, f1, hl1⟩ := PG
            go_wp2_with fail
            refine (HVm.out _ _ f9 (moved hM.out hw9 (Nat.le_refl _))).mono ?_
            rintro e w10 ⟨⟨uc, rfl, rowc⟩, hb10⟩
            obtain ⟨gc, cc, rfl, _, _⟩ := World.ownsRow.form rowc (by omega)
            have tA := TxtAt.of_row (row_down hA9 hb10)
            have tB := TxtAt.of_row (row_down hB9 hb10)
            have tW := TxtAt.of_row (row_down hW9 hb10)
            have hw10 := bt hw9 hb10
            clear c0 c1 f0 f1 hl1 d0 d1 i0' i1' hd1 hA9 hB9 hW9 f9 rowc
            go_wp2_with fail
            refine (HE.out _ _ _ tA tW).mono ?_
            rintro e w11 ⟨rfl, hb11⟩
            have tB2 := tB.down hb11
            have tW2 := tW.down hb11
            have hw11 := bt hw10 hb11
            go_wp2_with fail
            refine (HE.out _ _ _ tB2 tW2).mono ?_
            rintro e w12 ⟨rfl, hb12⟩
            have hw12 := bt hw11 hb12
            go_wp2_with fail
            go_ret
            exact ⟨rfl, hw12⟩
  · have hd0 : decide (0 < fs.length) = false := decide_eq_false hn0
    obtain ⟨NM, hNM⟩ : ∃ NM, NM = N0 := ⟨_, rfl⟩
    subst hNM
    have HNM := HN0
    obtain ⟨wA, hwa⟩ : ∃ wA, wA = w2 := ⟨_, rfl⟩
    subst hwa
    have PA := P2'
    have rowA := row2
    have hwA := hw2
    have hsA := hs2
    clear P2' row2 hw2 hs2
    go_wp2_with fail
    clear c0 c1 f0 f1 hl1 hd0 hn0
    go_loopw [7, 8] (fun u i wr => ∃ j : Nat, j ≤ fs.length ∧ i = .int .i64 j ∧ wr.ownsRow wA.heap.size 9 1 u (wantL (fs.take j) NM.data.toList).length (scells (wantL (fs.take j) NM.data.toList)) ∧ Below wA.heap.size wA wr) (fun _ i _ => fs.length - (intOf i).toNat)
    case atStart => exact ⟨0, Nat.zero_le _, rfl, World.ownsRow_nil _ _ _ _, Below.refl _ _⟩
    case round =>
      obtain ⟨j, hj, rfl, hown, hbw⟩ := hrel
      have PB := PA.below hbw PA.2.2.2.2
      have rowB := row_down rowA hbw
      have hwB := bt hwA hbw
      have hsB : w1.heap.size + 1 ≤ wr.heap.size := Nat.le_trans hsA hbw.size
      by_cases hlt : j < fs.length
      · obtain ⟨g, hG, e0, e1⟩ := flds_cells (FldsAt.of_row rowB) j hlt
        obtain ⟨N, hN⟩ : ∃ N : ByteArray, N = ⟨fs[j].1.toArray⟩ := ⟨_, rfl⟩
        obtain ⟨V, hV⟩ : ∃ V : ByteArray, V = ⟨fs[j].2.toArray⟩ := ⟨_, rfl⟩
        have hit : N = NM → scells (wantL (fs.take (j + 1)) NM.data.toList) = scells (wantL (fs.take j) NM.data.toList) ++ [.string V] ∧ (wantL (fs.take (j + 1)) NM.data.toList).length = (wantL (fs.take j) NM.data.toList).length + 1 := by
          intro h
          rw [want_take_hit fs NM.data.toList j hlt (by rw [← h, hN]; exact beq_self_eq_true _), hV]
          exact ⟨scells_snoc _ _, by simp⟩
        have miss : ¬ N = NM → wantL (fs.take (j + 1)) NM.data.toList = wantL (fs.take j) NM.data.toList := by
          intro h
          refine want_take_miss fs NM.data.toList j hlt (beq_eq_false_iff_ne.2 fun e => h ?_)
          rw [hN, e]
        rw [← hN] at e0
        rw [← hV] at e1
        subst hG
        obtain ⟨c0, c1, f0, f1, hl1⟩ := PB
        clear hN hV rowB hwB
        by_cases hNN : N = NM
        · have hv1 := Lib.hid (hit hNN).1
          have hv2 := Lib.hid (hit hNN).2
          have hvl : (wantL (fs.take j) NM.data.toList).length ≤ 6 := by
            have h1 := want_len (fs.take j) NM.data.toList
            rw [List.length_take] at h1
            omega
          obtain ⟨L, hL⟩ : ∃ L, L = wantL (fs.take j) NM.data.toList := ⟨_, rfl⟩
          rw [← hL] at hown hvl
          have HL := Lib.hid hL
          have hcl := scells_len L
          clear hit miss hL
          subst hNN
          go_wp2_with (at_builtin; refine wpList_append_lies _ (by rfl) _ _ _ (by rfl) wA.heap.size 9 i0 _ 1 16 Tryd.underlying39 HI.out HZ0.out HZ1.out HZ2.out rfl (by omega) u7 L.length (scells L) (by rfl) (hown.alloc _) ⟨wr.heap.size, 0, none⟩ 1 1 [.string V] (by rfl) (by rfl) (World.news_of_block (cs := #[.string V]) (t := 9) (fr := (0, 0)) (heap_alloc_new wr _)) (by simp [Value.oneCell']) (by omega) (by unfold maxLen; omega) (by omega) (by simp; exact Nat.le_succ_of_le hbw.size) (wr.heap.size + 1) (by simp) ?_)
          intro g2 cap2 w4 hown4 hgrow _ hglt
          have lb := below_row2 (hbw.alloc hbw.size (.cells #[.string V] 9)) (hown.alloc (.cells #[.string V] 9)) (Nat.le_refl _) hgrow
          obtain ⟨V', hV'⟩ : ∃ V' : Value, V' = .slice (some ⟨g2, 0, none⟩) (L.length + 1) cap2 := ⟨_, rfl⟩
          have hle := hv2.out
          rw [← HL.out] at hle
          have hce := hv1.out
          rw [← HL.out] at hce
          have hown5 := hown4
          rw [← hce] at hown5
          have hown6 := row_len hle.symm hown5
          clear hown4 hown5 hgrow hglt hle hce hown c0 c1 f0 f1 hl1 e0 e1 hV'
          go_wp2_with fail
          go_roundw
          case rel => exact ⟨j + 1, by omega, by go_num, hown6, lb⟩
          case measure => simp [intOf]; omega
        · have hv2 := Lib.hid (miss hNN)
          have hd : (N.toList == NM.toList) = false := beq_eq_false_iff_ne.2 (fun e => hNN (ByteArray.ext (Array.toList_inj.1 (by rw [ByteArray.toList_eq, ByteArray.toList_eq] at e; exact e))))
          clear hit miss
          go_wp2_with fail
          go_roundw
          case rel => exact ⟨j + 1, by omega, by go_num, by rw [hv2.out]; exact hown, hbw⟩
          case measure => simp [intOf]; omega
      · obtain rfl : j = fs.length := by omega
        rw [List.take_length] at hown
        obtain ⟨wB, hwb⟩ : ∃ wB, wB = wr := ⟨_, rfl⟩
        subst hwb
        obtain ⟨hNlow, hNok, hNs⟩ := HNM.out
        have hva : valsL fs NM.data.toList = wantL fs NM.data.toList := vals_want fs _ _ HG.out.2.1 (fold_low hNlow)
        have hvg : ∀ GR : ByteArray, GR.data.toList = greatL NM.data.toList → valsL fs GR.data.toList = wantL fs NM.data.toList := fun GR h => vals_want fs _ _ HG.out.2.1 (by rw [h]; exact fold_great hNlow)
        have hvm : (valsL (fs ++ [(NM.data.toList, [118])]) NM.data.toList).length = (wantL fs NM.data.toList).length + 1 := by
          rw [vals_want (fs ++ [(NM.data.toList, [118])]) NM.data.toList NM.data.toList ?_ (fold_low hNlow)]
          · exact want_more fs _ _
          · intro f hf
            rcases List.mem_append.1 hf with h | h
            · exact HG.out.2.1 f h
            · obtain rfl := List.mem_singleton.1 h
              exact hNlow
        have hwl := want_len fs NM.data.toList
        obtain ⟨ls, hls⟩ : ∃ ls, ls = wantL fs NM.data.toList := ⟨_, rfl⟩
        rw [← hls] at hown hva hvg hvm hwl
        obtain ⟨lm, hlm⟩ : ∃ lm, lm = valsL (fs ++ [(NM.data.toList, [118])]) NM.data.toList := ⟨_, rfl⟩
        rw [← hlm] at hvm
        have HVa : Hid (∀ v w, FldsAt w v fs → w.cell? ⟨0, 0, none⟩ = some (.int .i64 m) → Calls Tryd.prog 27 #[.agg #[v, .string ⟨#[]⟩], .string NM] w fun e w' => (∃ u, e = .returned (.tuple #[u, .int .i64 0]) ∧ w'.ownsRow w.heap.size 9 1 u ls.length (scells ls)) ∧ Below w.heap.size w w') :=
          fun v w h1 h2 => values_walk fs v NM ls m w h1 HG.out.1 (by omega) (by have := HG.out.2.2.2; omega) (by omega) hva h2
        have HVg : Hid (∀ GR : ByteArray, GR.data.toList = greatL NM.data.toList → ∀ v w, FldsAt w v fs → w.cell? ⟨0, 0, none⟩ = some (.int .i64 m) → Calls Tryd.prog 27 #[.agg #[v, .string ⟨#[]⟩], .string GR] w fun e w' => (∃ u, e = .returned (.tuple #[u, .int .i64 0]) ∧ w'.ownsRow w.heap.size 9 1 u ls.length (scells ls)) ∧ Below w.heap.size w w') :=
          fun GR hGR v w h1 h2 => values_walk fs v GR ls m w h1 HG.out.1 (by omega) (by have := HG.out.2.2.2; omega) (by
            have h1 : GR.size = GR.data.toList.length := by simp
            have h2 : NM.data.toList.length = NM.size := by simp
            rw [h1, hGR, greatL_length]; omega) (hvg GR hGR) h2
        have HVm : Hid (∀ v w, FldsAt w v (fs ++ [(NM.data.toList, [118])]) → w.cell? ⟨0, 0, none⟩ = some (.int .i64 m) → Calls Tryd.prog 27 #[.agg #[v, .string ⟨#[]⟩], .string NM] w fun e w' => (∃ u, e = .returned (.tuple #[u, .int .i64 0]) ∧ w'.ownsRow w.heap.size 9 1 u (ls.length + 1) (scells lm)) ∧ Below w.heap.size w w') := fun v w h1 h2 => by
          have := values_walk (fs ++ [(NM.data.toList, [118])]) v NM lm m w h1 (named_good fs _ HG.out.1 hNok) (by simp; omega) (by
            have h3 := HG.out.2.2.2
            have h4 : NM.data.toList.length = NM.size := by simp
            rw [showF_len2]
            omega) (by omega) hlm.symm h2
          rw [hvm] at this
          exact this
        have HE : Hid (∀ u1 u2 w, TxtAt w u1 ls → TxtAt w u2 ls → Calls Tryd.prog 28 #[u1, u2] w fun e w' => e = .returned (.bool true) ∧ Below w.heap.size w w') := fun u1 u2 w h1 h2 => texts_any _ u1 u2 w h1 h2 (by omega)
        clear hva hvg hvm hlm hls hNok
        have kc := Lib.run_convert_string_bytes (P := Tryd.prog) wB 9 60 5 NM Tryd.underlying9 Tryd.underlying60 Tryd.underlying5
        have hH := HasB.fresh wB 5 NM
        have hBw := bytesWorld_below wB 5 NM
        obtain ⟨cpb, hcpb⟩ : ∃ cpb, cpb = grownCap wB NM.size 0 5 := ⟨_, rfl⟩
        have hsz9 : wB.heap.size < (Lib.bytesWorld wB 5 NM).heap.size := by rw [Lib.bytesWorld_size]; omega
        obtain ⟨wC, hwC⟩ : ∃ wC, wC = Lib.bytesWorld wB 5 NM := ⟨_, rfl⟩
        rw [← hcpb, ← hwC] at kc
        rw [← hwC] at hH hBw hsz9
        clear hcpb hwC
        have hls : NM.size = NM.data.toList.length := by simp
        rw [hls] at kc
        obtain ⟨l, hl⟩ : ∃ l, l = NM.data.toList := ⟨_, rfl⟩
        rw [← hl] at kc hH hNlow HVg
        have hl8 : l.length ≤ 8 := by rw [hl, ← hls]; exact hNs
        obtain ⟨Gw, cw, hu⟩ := lie_row hown
        subst hu
        clear hls hl
        have PB' := PB
        obtain ⟨c0, c1, f0, f1, hl1⟩ := PB'
        go_wp2_with fail
        clear c0 c1 f0 f1 hl1 kc
        go_loopw [10] (fun i wx => ∃ k : Nat, k ≤ l.length ∧ i = .int .i64 k ∧ HasB wx wB.heap.size (greatTo l k) ∧ Below wB.heap.size wB wx ∧ wB.heap.size < wx.heap.size) (fun i _ => l.length - (intOf i).toNat)
        case atStart => exact ⟨0, Nat.zero_le _, rfl, by rw [greatTo_zero]; exact hH, hBw, hsz9⟩
        case round =>
          clear hH hBw hsz9
          obtain ⟨k, hk, rfl, hh, hbx, hszx⟩ := hrel
          by_cases hlt2 : k < l.length
          · have hc : wr.cell? ⟨wB.heap.size, k, none⟩ = some (.int .u8 (l[k].toNat : Int)) := by
              rw [hh.1 k (by rw [greatTo_length]; exact hlt2), greatTo_get l k hlt2]
            have hf : wr.frozen? ⟨wB.heap.size, k, none⟩ = false := hh.2 k (by rw [greatTo_length]; exact hlt2)
            have hk97 := hNlow l[k] (List.getElem_mem hlt2)
            have hst : HasB (wr.setCell ⟨wB.heap.size, k, none⟩ (.int .u8 ((l[k] - 32).toNat : Int))) wB.heap.size (greatTo l (k + 1)) := greatTo_step l k hlt2 ▸ hh.stored k (l[k] - 32)
            rw [great_nat l[k] hk97] at hst
            have HS := Lib.hid hst
            obtain ⟨h97, h122⟩ := hk97
            clear hst hh
            go_wp2_with fail
            go_roundw
            case rel => exact ⟨k + 1, by omega, by go_num, HS.out, hbx.setCell (Nat.le_refl _) _, by simpa [World.setCell] using hszx⟩
            case measure => simp [intOf]; omega
          · obtain rfl : k = l.length := by omega
            rw [greatTo_all] at hh
            have PD := pair_down PB hbx
            have rowD := row_down rowB hbx
            have ownD := row_down hown hbx
            have hwD := bt hwB hbx
            have hsD : w1.heap.size + 1 ≤ wr.heap.size := Nat.le_trans hsB hbx.size
            have PD' := PD
            obtain ⟨c0, c1, f0, f1, hl1⟩ := PD'
            clear PB rowB hown hwB
            go_wp2_with fail
            refine (HVa.out _ _ (FldsAt.of_row rowD) (moved hM.out hwD (Nat.le_refl _))).mono ?_
            rintro e w5 ⟨⟨ua, rfl, rowa⟩, hb5⟩
            have PE := pair_down PD hb5
            have rowE := row_down rowD hb5
            have ownE := row_down ownD hb5
            have hwE := bt hwD hb5
            have hh5 := hasB_down hh hb5 hszx
            have hsE : w1.heap.size + 1 ≤ w5.heap.size := Nat.le_trans hsD hb5.size
            have hcv := hh5.str cpb Tryd.underlying60 Tryd.underlying5 Tryd.underlying9
            rw [greatL_length] at hcv
            obtain ⟨GR, hGR⟩ : ∃ GR : ByteArray, GR = ⟨(greatL l).toArray⟩ := ⟨_, rfl⟩
            rw [← hGR] at hcv
            have hGl : GR.data.toList = greatL l := by rw [hGR]
            have PE' := PE
            clear c0 c1 f0 f1 hl1 PD rowD ownD hGR
            obtain ⟨c0, c1, f0, f1, hl1⟩ := PE'
            go_wp2_with fail
            refine (HVg.out GR hGl _ _ (FldsAt.of_row rowE) (moved hM.out hwE (Nat.le_refl _))).mono ?_
            rintro e w6 ⟨⟨ub, rfl, rowb⟩, hb6⟩
            have PF := pair_down PE hb6
            have rowF := row_down rowE hb6
            have ownF := row_down ownE hb6
            have rowaF := row_down rowa hb6
            have hwF := bt hwE hb6
            have hsF : w1.heap.size + 1 ≤ w6.heap.size := Nat.le_trans hsE hb6.size
            have PF' := PF
            clear c0 c1 f0 f1 hl1 PE rowE ownE rowa hcv hh hh5 hGl
            obtain ⟨c0, c1, f0, f1, hl1⟩ := PF'
            have hcl := fcells_length fs
            go_wp2_with (at_builtin; refine wpList_append_lies _ (by rfl) _ _ _ (by rfl) w.heap.size 48 i1 _ 2 32 Tryd.underlying43 HI1.out HJ0.out HJ1.out HJ2.out rfl (by omega) (.slice G fs.length c) fs.length (fcells fs) (by rfl) (rowF.alloc _) ⟨w6.heap.size, 0, none⟩ 1 1 [.string NM, .string ⟨#[118]⟩] (by rfl) (by rfl) (World.news_of_block (cs := #[.string NM, .string ⟨#[118]⟩]) (t := 48) (fr := (0, 0)) (heap_alloc_new w6 _)) (by simp [Value.oneCell']) (by omega) (by unfold maxLen; omega) (by omega) (by simp; exact Nat.le_succ_of_le hwF.size) (w6.heap.size + 1) (by simp) ?_)
            intro g2 cap2 w8 row8 hgrow hat hglt
            have hsn : fcells (fs ++ [(NM.data.toList, [118])]) = fcells fs ++ [.string NM, .string ⟨#[118]⟩] := fcells_snoc fs _
            rw [← hsn] at row8
            have ho : ∀ k, (Value.slice G fs.length c).ownBlock = some k → k < w1.heap.size := fun k hk => (hlie k hk).2
            have ap := ba (Below.refl _ w6) (.cells #[.string NM, .string ⟨#[118]⟩] 48)
            have PG := (PF.below ap PF.2.2.2.2).kept hgrow (by intro e; have := ho _ e.symm; omega)
            have gA := row_kept (rowaF.alloc (.cells #[.string NM, .string ⟨#[118]⟩] 48)) hgrow ho (by omega)
            have gB := row_kept (rowb.alloc (.cells #[.string NM, .string ⟨#[118]⟩] 48)) hgrow ho (by omega)
            have gW := row_kept (ownF.alloc (.cells #[.string NM, .string ⟨#[118]⟩] 48)) hgrow ho (by omega)
            have hw8 := below_row2 (ba hwF (.cells #[.string NM, .string ⟨#[118]⟩] 48)) (rowF.alloc (.cells #[.string NM, .string ⟨#[118]⟩] 48)) (Nat.le_refl _) hgrow
            have hg2 : g2 ≠ w1.heap.size := by
              rcases hat with h | h
              · have := ho g2 h; omega
              · omega
            have hlow9 : w.heap.size ≤ w1.heap.size := hw1.size
            have row9 : (w8.setCell ⟨w1.heap.size, 0, none⟩ (.slice (some ⟨g2, 0, none⟩) (fs.length + 1) cap2)).ownsRow w.heap.size 48 2 (.slice (some ⟨g2, 0, none⟩) (fs.length + 1) cap2) (fs.length + 1) (fcells (fs ++ [(NM.data.toList, [118])])) :=
              row8.kept (Go.Lib.grownBy_setB (World.grownBy.refl w8 (some w1.heap.size)) 0 _) (.inr (by intro e; exact hg2 (Option.some.inj e)))
            have PH := PG.set0 (.slice (some ⟨g2, 0, none⟩) (fs.length + 1) cap2)
            have hA9 := row_else gA (show w1.heap.size < _ by omega) 0 (.slice (some ⟨g2, 0, none⟩) (fs.length + 1) cap2)
            have hB9 := row_else gB (show w1.heap.size < _ by omega) 0 (.slice (some ⟨g2, 0, none⟩) (fs.length + 1) cap2)
            have hW9 := row_else gW (show w1.heap.size < _ by omega) 0 (.slice (some ⟨g2, 0, none⟩) (fs.length + 1) cap2)
            have hw9 := hw8.setCell (p := ⟨w1.heap.size, 0, none⟩) (by show w.heap.size ≤ w1.heap.size; exact hlow9) (.slice (some ⟨g2, 0, none⟩) (fs.length + 1) cap2)
            have f9 : FldsAt _ _ (fs ++ [(NM.data.toList, [118])]) := FldsAt.of_row (row_len (show fs.length + 1 = (fs ++ [(NM.data.toList, [118])]).length by simp) row9)
            clear c0 c1 f0 f1 hl1 PF row8 row9 gA gB gW hw8 hgrow hat hglt hsn ap ho rowF rowb ownF rowaF hwF hg2 hlow9
            obtain ⟨d0, d1, i0', i1', hd1⟩ := PH
            obtain ⟨c0, c1, f0, f1, hl1⟩ := PG
            go_wp2_with fail
            refine (HVm.out _ _ f9 (moved hM.out hw9 (Nat.le_refl _))).mono ?_
            rintro e w10 ⟨⟨uc, rfl, rowc⟩, hb10⟩
            obtain ⟨gc, cc, rfl, _, _⟩ := World.ownsRow.form rowc (by omega)
            have tA := TxtAt.of_row (row_down hA9 hb10)
            have tB := TxtAt.of_row (row_down hB9 hb10)
            have tW := TxtAt.of_row (row_down hW9 hb10)
            have hw10 := bt hw9 hb10
            clear c0 c1 f0 f1 hl1 d0 d1 i0' i1' hd1 hA9 hB9 hW9 f9 rowc
            go_wp2_with fail
            refine (HE.out _ _ _ tA tW).mono ?_
            rintro e w11 ⟨rfl, hb11⟩
            have tB2 := tB.down hb11
            have tW2 := tW.down hb11
            have hw11 := bt hw10 hb11
            go_wp2_with fail
            refine (HE.out _ _ _ tB2 tW2).mono ?_
            rintro e w12 ⟨rfl, hb12⟩
            have hw12 := bt hw11 hb12
            go_wp2_with fail
            go_ret
            exact ⟨rfl, hw12⟩
end Go.Proofs.YtkchoempejdleaaDoor
