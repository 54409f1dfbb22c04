/-
  DERIVED. Of: AskMore.
-/
import Derived.Test.YtpfbkdbblpppdaaGreatDoorDJdA
import Derived.Test.YtpfbkdbblpppdaaGreatDoorKJdLet
import Derived.Test.YtpfbkdbblpppdaaGreatDoorKScTstO
import Derived.Test.YtpfbkdbblpppdaaGreatDoorKAskMoreP
import Derived.Deep.DeepCutAuto
set_option linter.unusedVariables false
set_option linter.unusedSimpArgs false
namespace Go.Proofs.YtpfbkdbblpppdaaGreatDoor.Jd
open Go.RowKit
open Sc (Str Tst Cmd cStr strC cTst RW Stk cStk strs Bd)

/-- letter and test in variables; the test's names and keys in blocks of their own -/
structure MoreSt (w W : World) (B L T : Nat) (x : Ltt) (k m p : Int) (bn bk : Nat) (ns ks : List Str) (nn nk cn ck : Nat) : Prop where
  l : Has W L (lttC x)
  t : Has W T [.int .i64 k, .int .i64 m, .int .i64 p, .slice (some ⟨bn, 0, none⟩) nn cn, .slice (some ⟨bk, 0, none⟩) nk ck, .bool false, .int .i64 0, .slice none 0 0]
  n : W.ownsRow B 9 1 (.slice (some ⟨bn, 0, none⟩) nn cn) nn (strs ns)
  k : W.ownsRow B 9 1 (.slice (some ⟨bk, 0, none⟩) nk ck) nk (strs ks)
  ne : bn ≠ bk ∧ T ≠ bn ∧ T ≠ bk ∧ L < B ∧ B ≤ T ∧ w.heap.size ≤ B ∧ ns.length = nn ∧ ks.length = nk
  bel : Below w.heap.size w W
section
variable {w W W' : World} {B L T : Nat} {x : Ltt} {k m p : Int} {bn bk : Nat} {ns ks : List Str} {nn nk cn ck : Nat}
theorem MoreSt.down (h : MoreSt w W B L T x k m p bn bk ns ks nn nk cn ck) (hb : Below W.heap.size W W') : MoreSt w W' B L T x k m p bn bk ns ks nn nk cn ck :=
  ⟨h.l.down hb, h.t.down hb, row_down h.n hb, row_down h.k hb, h.ne, bt h.bel hb⟩
theorem MoreSt.tv (h : MoreSt w W B L T x k m p bn bk ns ks nn nk cn ck) : TV W 1 ⟨k, m, p, ns, ks, false, 0, []⟩ [.int .i64 k, .int .i64 m, .int .i64 p, .slice (some ⟨bn, 0, none⟩) nn cn, .slice (some ⟨bk, 0, none⟩) nk ck, .bool false, .int .i64 0, .slice none 0 0] :=
  ⟨_, _, _, rfl, Sc.sat_own h.n h.ne.2.2.2.2.2.2.1.symm (h.n.lt bn rfl).2, Sc.sat_own h.k h.ne.2.2.2.2.2.2.2.symm (h.k.lt bk rfl).2, SAt.nil _ _ _⟩
theorem hTn {b c T n : Nat} (e : (Value.slice (some ⟨b, 0, none⟩) n c).ownBlock = some T) (h : T ≠ b) : False := h (Option.some.inj e).symm
/-- one key more -/
theorem MoreSt.key {w5 : World} {g cap : Nat} {q : ByteArray} (h : MoreSt w W B L T x k m p bn bk ns ks nn nk cn ck) (hr : w5.ownsRow B 9 1 (.slice (some ⟨g, 0, none⟩) (nk + 1) cap) (nk + 1) (strs ks ++ [.string q])) (hg : W.grownBy w5 (some bk)) (hat : (Value.slice (some ⟨bk, 0, none⟩) nk ck).ownBlock = some g ∨ g = W.heap.size) :
    MoreSt w (w5.setCell ⟨T, 4, none⟩ (.slice (some ⟨g, 0, none⟩) (nk + 1) cap)) B L T x k m p bn g ns (ks ++ [q.data.toList]) nn (nk + 1) cn cap := by
  obtain ⟨h1, h2, h3, h4, h5, h6, h7, h8⟩ := h.ne
  have hbn := (h.n.lt bn rfl).2
  have hbk := (h.k.lt bk rfl)
  have hTl := h.t.2.2
  have hgg : g = bk ∨ g = W.heap.size := by
    rcases hat with e | e
    · exact .inl (Option.some.inj e).symm
    · exact .inr e
  have hng : bn ≠ g := by rcases hgg with e | e <;> omega
  have hTg : T ≠ g := by rcases hgg with e | e <;> omega
  have hl := h.l.kept hg (fun e => by have := Option.some.inj e; omega)
  have ht := h.t.kept hg (fun e => by have := Option.some.inj e; omega)
  have hn := World.ownsRow.kept h.n hg (.inr (fun e => by have : bn = bk := Option.some.inj e; omega))
  have hb : Below w.heap.size w w5 := below_row h.bel (Nat.le_refl _) h.k h6 hg
  have e1 : strs ks ++ [Value.string q] = strs (ks ++ [q.data.toList]) := by
    unfold strs
    rw [List.map_append]
    show _ = _ ++ [Value.string ⟨q.data.toList.toArray⟩]
    rw [Array.toArray_toList]
  rw [e1] at hr
  exact ⟨hl.else' (by omega) _, ht.set' (i := 4) _ (by simp), row_off hn (fun e => hTn e h2) _ _, row_off hr (fun e => hTn e hTg) _ _, ⟨hng, h2, hTg, h4, h5, h6, h7, by rw [List.length_append, h8]; rfl⟩, hb.setCell (by show w.heap.size ≤ T; omega) _⟩
/-- one name more -/
theorem MoreSt.name {w5 : World} {g cap : Nat} {q : ByteArray} (h : MoreSt w W B L T x k m p bn bk ns ks nn nk cn ck) (hr : w5.ownsRow B 9 1 (.slice (some ⟨g, 0, none⟩) (nn + 1) cap) (nn + 1) (strs ns ++ [.string q])) (hg : W.grownBy w5 (some bn)) (hat : (Value.slice (some ⟨bn, 0, none⟩) nn cn).ownBlock = some g ∨ g = W.heap.size) :
    MoreSt w (w5.setCell ⟨T, 3, none⟩ (.slice (some ⟨g, 0, none⟩) (nn + 1) cap)) B L T x k m p g bk (ns ++ [q.data.toList]) ks (nn + 1) nk cap ck := by
  obtain ⟨h1, h2, h3, h4, h5, h6, h7, h8⟩ := h.ne
  have hbn := (h.n.lt bn rfl)
  have hbk := (h.k.lt bk rfl).2
  have hTl := h.t.2.2
  have hgg : g = bn ∨ g = W.heap.size := by
    rcases hat with e | e
    · exact .inl (Option.some.inj e).symm
    · exact .inr e
  have hng : g ≠ bk := by rcases hgg with e | e <;> omega
  have hTg : T ≠ g := by rcases hgg with e | e <;> omega
  have hl := h.l.kept hg (fun e => by have := Option.some.inj e; omega)
  have ht := h.t.kept hg (fun e => by have := Option.some.inj e; omega)
  have hk := World.ownsRow.kept h.k hg (.inr (fun e => by have : bk = bn := Option.some.inj e; omega))
  have hb : Below w.heap.size w w5 := below_row h.bel (Nat.le_refl _) h.n h6 hg
  have e1 : strs ns ++ [Value.string q] = strs (ns ++ [q.data.toList]) := by
    unfold strs
    rw [List.map_append]
    show _ = _ ++ [Value.string ⟨q.data.toList.toArray⟩]
    rw [Array.toArray_toList]
  rw [e1] at hr
  exact ⟨hl.else' (by omega) _, ht.set' (i := 3) _ (by simp), row_off hr (fun e => hTn e hTg) _ _, row_off hk (fun e => hTn e h3) _ _, ⟨hng, hTg, h3, h4, h5, h6, by rw [List.length_append, h7]; rfl, h8⟩, hb.setCell (by show w.heap.size ≤ T; omega) _⟩
end
theorem sure_tv (V : World) (a b : Nat) (ha : Has V a [.string ⟨#[116, 111]⟩]) (hb : Has V b [.string ⟨#[64]⟩]) : TV V 1 sureT [.int .i64 8, .int .i64 2, .int .i64 1, .slice (some ⟨a, 0, none⟩) 1 1, .slice (some ⟨b, 0, none⟩) 1 1, .bool false, .int .i64 0, .slice none 0 0] :=
  ⟨_, _, _, rfl, Sc.sat_str (s := [116, 111]) ha ha.2.2, Sc.sat_str (s := [64]) hb hb.2.2, SAt.nil _ _ _⟩
theorem nm6_len : ∀ n : Nat, n < 4 → (Sc.nm6.getD n []).length ≤ 100 := by decide
theorem keys_len (y : Stk) : (0 < (Sc.keysS y).length ∧ (Sc.keysS y).length ≤ 2) ∧ ∀ s ∈ Sc.keysS y, s.length ≤ 100 := by
  unfold Sc.keysS
  split
  · refine ⟨⟨by simp, by simp⟩, fun s hs => ?_⟩
    rcases List.mem_cons.1 hs with rfl | hs
    · rw [List.length_take]; omega
    · rw [List.mem_singleton] at hs; subst hs; rw [List.length_take]; omega
  · refine ⟨⟨by simp, by simp⟩, fun s hs => ?_⟩
    rw [List.mem_singleton] at hs; subst hs; rw [List.length_take]; omega
/-- what is known of the test of raw numbers -/
theorem leaf_form {k k' m p : Int} {y : Stk} {nm : Str} {ks : List Str} (hk : k = 6 ∨ k = 7) (h : Sc.leafS k y = ⟨k', m, p, [nm], ks, false, 0, []⟩) :
    k' = k ∧ (1 ≤ m ∧ m ≤ 3) ∧ (k = 6 ∧ p = 0 ∨ (k = 7 ∨ k = 8) ∧ 1 ≤ p ∧ p ≤ 3) ∧ nm.length ≤ 100 ∧ (0 < ks.length ∧ ks.length ≤ 2) ∧ ∀ s ∈ ks, s.length ≤ 100 := by
  have a3 := pick_lt_int y.a 3 (by omega)
  have b3 := pick_lt_int y.b 3 (by omega)
  have b4 := pick_lt_int y.b 4 (by omega)
  have hl := keys_len y
  unfold Sc.leafS at h
  rcases hk with rfl | rfl
  · rw [if_pos rfl] at h
    injection h with e1 e2 e3 e4 e5
    injection e4 with e4 _
    subst e1 e2 e3 e4 e5
    exact ⟨rfl, by omega, .inl ⟨rfl, rfl⟩, nm6_len _ (by omega), hl⟩
  · rw [if_neg (by decide), if_pos rfl] at h
    injection h with e1 e2 e3 e4 e5
    injection e4 with e4 _
    subst e1 e2 e3 e4 e5
    exact ⟨rfl, by omega, .inr ⟨.inl rfl, by omega⟩, nm6_len _ (by omega), hl⟩
set_option maxHeartbeats 8000000 in
set_option maxRecDepth 20000 in
theorem askMore_walk (a0 a1 a2 b0 b1 b2 : ByteArray) (G : Option Addr) (n c : Nat) (z : Nat → Nat → ByteArray) (bo : ByteArray) (xs : List Value) (kt : Nat) (y : Stk) (key : ByteArray) (mx : Int) (w : World) (h0 : a0.size ≤ maxLen) (h1 : a1.size ≤ maxLen) (_h2 : a2.size ≤ maxLen) (j0 : b0.size ≤ maxLen) (j1 : b1.size ≤ maxLen) (_j2 : b2.size ≤ maxLen) (hx : StrRows w G n 2 z ∧ n ≤ maxLen) (hbo : bo.size ≤ maxLen)
    (hy : (cStk kt).rep w (fun _ => True) y xs) (hky : key.size ≤ maxLen) (hT : Sc.Tabs w w.heap.size) (hE : Sc.ExtAt w ∧ 0 < w.heap.size) (hN : NamesAt w ∧ 2 < w.heap.size) (hmx : w.cell? ⟨6, 0, none⟩ = some (.int .i64 mx)) :
    Calls Tryz.prog 3 #[.agg #[.string a0, .string a1, .string a2, .string b0, .string b1, .string b2, .slice G n c, .string bo], .agg xs.toArray, .string key] w fun e w' => e = .returned (.bool true) ∧ Below w.heap.size w w' := by
  have h : PostIn w a0 a1 a2 b0 b1 b2 G n c z bo := ⟨h0, h1, j0, j1, hx, hbo⟩
  have hW : RW w mx := ⟨hT, hE, hN, hmx⟩
  clear h0 h1 _h2 j0 j1 _j2 hx hbo hT hE hN hmx
  obtain ⟨x, hx⟩ : ∃ x, x = ltrX a0 a1 b0 b1 z n bo := ⟨_, rfl⟩
  have hok := ltrX_ok a0 a1 b0 b1 z n bo
  rw [← hx] at hok
  obtain ⟨fs, hfs⟩ : ∃ fs, fs = ltrFs z n := ⟨_, rfl⟩
  rw [← hfs] at hok
  have HLT : Hid (∀ V, Below w.heap.size w V → Calls Tryz.prog 14 #[.agg #[.string a0, .string a1, .string a2, .string b0, .string b1, .string b2, .slice G n c, .string bo]] V (LetterP x V)) := fun V hV => by
    rw [hx]
    exact letterX_any a0 a1 a2 b0 b1 b2 G n c z bo mx V (h.down hV) (hW.down hV).max
  obtain ⟨_, Gs, cs, -, rfl, -, -, hbd⟩ := Sc.stk_open hy
  have hp2 : pick y.kind 2 < 2 := by have := pick_lt_int y.kind 2 (by omega); omega
  have HPK : Hid (∀ V, Calls Tryz.prog 15 #[.int .i64 y.kind, .int .i64 2] V fun e w' => e = .returned (.int .i64 (pick y.kind 2 : Nat)) ∧ V = w') := fun V => picked_any y.kind 2 V hbd.k.1 hbd.k.2 (by omega) (by omega)
  obtain ⟨pk, hpk⟩ : ∃ pk, pk = pick y.kind 2 := ⟨_, rfl⟩
  rw [← hpk] at HPK hp2
  obtain ⟨y', hy'⟩ : ∃ y' : Stk, y' = ⟨5 + (pk : Int), y.a, y.b, y.s, y.t, y.subs⟩ := ⟨_, rfl⟩
  have hbd' : Bd y' := by rw [hy']; exact ⟨by show (-9223372036854775808 : Int) ≤ 5 + (pk : Int) ∧ 5 + (pk : Int) ≤ 9223372036854775807; omega, hbd.a, hbd.b, hbd.s, hbd.t, hbd.n⟩
  obtain ⟨kk, hkk⟩ : ∃ kk : Int, kk = 6 + (pk : Int) := ⟨_, rfl⟩
  have hk67 : kk = 6 ∨ kk = 7 := by omega
  have hks : Sc.kindS y' = kk := by
    have : pk = 0 ∨ pk = 1 := by omega
    rw [hy', hkk]
    rcases this with rfl | rfl <;> rfl
  have HTS : Hid (∀ V, Calls Tryz.prog 16 #[.agg #[.int .i64 (5 + (pk : Int)), .int .i64 y.a, .int .i64 y.b, .string ⟨y.s.toArray⟩, .string ⟨y.t.toArray⟩, .slice Gs y.subs.length cs], .int .i64 3] V (Sc.TestO (Sc.leafS kk y') V)) := fun V => by
    have := Sc.test_own kk y' (.slice Gs y.subs.length cs) 3 V hbd' hk67 hks (by decide)
    rw [hy'] at this ⊢
    exact this
  obtain ⟨lf, hlf⟩ : ∃ lf, lf = Sc.leafS kk y' := ⟨_, rfl⟩
  rw [← hlf] at HTS
  have HLF : Hid (∀ {k' m p : Int} {nm : Str} {ks : List Str}, lf = ⟨k', m, p, [nm], ks, false, 0, []⟩ → k' = kk ∧ (1 ≤ m ∧ m ≤ 3) ∧ (kk = 6 ∧ p = 0 ∨ (kk = 7 ∨ kk = 8) ∧ 1 ≤ p ∧ p ≤ 3) ∧ nm.length ≤ 100 ∧ (0 < ks.length ∧ ks.length ≤ 2) ∧ ∀ s ∈ ks, s.length ≤ 100) := fun e => leaf_form hk67 (by rw [← hlf]; exact e)
  have HASK : Hid (∀ (u : Tst) (us : List Value) (V : World), TV V 1 u us → Fine 1 40 u → Below w.heap.size w V → Calls Tryz.prog 17 #[.agg us.toArray, .agg (lttC x).toArray] V (AskR (tstJ x fs u) V)) := fun u us V hu hf hV =>
    jask_tv 1 40 u us x fs _ mx V hu hf (by omega) hok (hW.down hV)
  have HSURE : Hid (tstJ x fs sureT = true) := sure_fits x fs hok.to_
  have HK67 := Lib.hid hk67
  obtain ⟨q, hq⟩ : ∃ b : ByteArray, b = ⟨(key.data.toList.take 12).toArray⟩ := ⟨_, rfl⟩
  have HSHT : Hid (∀ V, Calls Tryz.prog 18 #[.string key] V fun e w' => e = .returned (.string q) ∧ V = w') := fun V => by
    have := Sc.short_any key.data.toList V (by rw [Array.length_toList]; exact hky)
    rw [Array.toArray_toList] at this
    rw [hq]; exact this
  have HQ : Hid (q.data.toList.length ≤ 12) := by unfold Hid; rw [hq]; simp [List.length_take]; omega
  have hA1 := ba (Below.refl w.heap.size w) (.cells #[.string a0, .string a1, .string a2, .string b0, .string b1, .string b2, .slice G n c, .string bo] 26)
  have hA2 := ba (Below.refl _ (w.alloc (.cells #[.string a0, .string a1, .string a2, .string b0, .string b1, .string b2, .slice G n c, .string bo] 26))) (.cells #[.int .i64 y.kind, .int .i64 y.a, .int .i64 y.b, .string ⟨y.s.toArray⟩, .string ⟨y.t.toArray⟩, .slice Gs y.subs.length cs] 29)
  have HX1 := Lib.hid ((Has.alloc w [.string a0, .string a1, .string a2, .string b0, .string b1, .string b2, .slice G n c, .string bo] 26).down hA2)
  have hX2 := Has.alloc (w.alloc (.cells #[.string a0, .string a1, .string a2, .string b0, .string b1, .string b2, .slice G n c, .string bo] 26)) [.int .i64 y.kind, .int .i64 y.a, .int .i64 y.b, .string ⟨y.s.toArray⟩, .string ⟨y.t.toArray⟩, .slice Gs y.subs.length cs] 29
  rw [World.size_alloc] at hX2
  have HX2 := Lib.hid hX2
  have HA := Lib.hid (bt hA1 hA2)
  unfold Sc.stkC
  obtain ⟨yk, hyk⟩ : ∃ v, v = y.kind := ⟨_, rfl⟩
  rw [← hyk] at HPK HX1 HX2 HA ⊢
  clear hx hfs h hy hW hok hbd hpk hbd' hks hy' hlf hkk hk67 hq hA1 hA2 hX2 hky hyk
  go_enter Tryz.func3, Tryz.ntmps3
  go_upto_region 1 with fail
  refine wp_here (R := fun W => Has W w.heap.size [.string a0, .string a1, .string a2, .string b0, .string b1, .string b2, .slice G n c, .string bo] ∧ Has W (w.heap.size + 1) [.int .i64 yk, .int .i64 y.a, .int .i64 y.b, .string ⟨y.s.toArray⟩, .string ⟨y.t.toArray⟩, .slice Gs y.subs.length cs] ∧ Below w.heap.size w W) ⟨HX1.out, HX2.out, HA.out⟩ (fun W hW => ?_)
  obtain ⟨hP, hX, hB⟩ := hW
  clear HX1 HX2 HA
  obtain ⟨p0, p1, p2, p3, p4, p5, p6, p7⟩ := Sc.has_oct' hP
  have HXX := Lib.hid hX; have HB := Lib.hid hB
  have HC := Lib.hid (HLT.out W hB)
  clear hP hX hB HLT
  go_wp2_with fail
  refine HC.out.mono ?_
  rintro e w1 ⟨rfl, hb1⟩
  clear HC p0 p1 p2 p3 p4 p5 p6 p7
  have hA := ba (Below.refl w1.heap.size w1) (.cells (lttC x).toArray 33)
  have hL := Has.alloc w1 (lttC x) 33
  obtain ⟨L, hLe⟩ : ∃ L, L = w1.heap.size := ⟨_, rfl⟩
  obtain ⟨W2, hW2⟩ : ∃ W2, W2 = w1.alloc (.cells (lttC x).toArray 33) := ⟨_, rfl⟩
  rw [← hLe, ← hW2] at hL
  rw [← hW2] at hA
  have hX2 := HXX.out.down (bt hb1 hA)
  have hB2 := bt HB.out (bt hb1 hA)
  have hXl : w.heap.size + 1 ≠ L := by have := HXX.out.2.2; have := hb1.size; omega
  -- the kind is written
  have hX3 := hX2.set' (i := 0) (.int .i64 (5 + (pk : Int))) (by simp)
  have hL3 := hL.else' (i := 0) (c := w.heap.size + 1) hXl.symm (.int .i64 (5 + (pk : Int)))
  have hB3 := hB2.setCell (p := ⟨w.heap.size + 1, 0, none⟩) (by show w.heap.size ≤ w.heap.size + 1; omega) (.int .i64 (5 + (pk : Int)))
  obtain ⟨W3, hW3⟩ : ∃ W, W = W2.setCell ⟨w.heap.size + 1, 0, none⟩ (.int .i64 (5 + (pk : Int))) := ⟨_, rfl⟩
  rw [← hW3] at hX3 hL3 hB3
  obtain ⟨q0, q1, q2, q3, q4, q5⟩ := Sc.has_six hX2
  have g0 := hX2.2.1 0 (by simp)
  have HX3 := Lib.hid hX3; have HL3 := Lib.hid hL3; have HB3 := Lib.hid hB3
  have HWe := Lib.hid hW2; have HLe := Lib.hid hLe; have HWe3 := Lib.hid hW3
  unfold lttC at HWe HASK ⊢
  clear hA hL hLe hW2 hb1 HXX HB hX2 hB2 hXl hX3 hL3 hB3 hW3
  go_upto_region 2 with fail
  rw [← HWe.out, ← HLe.out]
  clear HWe HLe
  go_upto_region 3 with (go_at_call 15; refine (HPK.out _).mono ?_; rintro e w' ⟨rfl, rfl⟩)
  rw [← HWe3.out]
  clear HWe3 q0 q1 q2 q3 q4 q5 g0 HPK
  obtain ⟨q0, q1, q2, q3, q4, q5⟩ := Sc.has_six HX3.out
  go_wp2_with fail
  refine (HTS.out W3).mono ?_
  rintro e w4 ⟨k, m, p, bn, bk, nm, ck, ks, rfl, hn, hk, hne, he, hb4⟩
  obtain ⟨rfl, hm3, hp3, hnm, hkl, hk100⟩ := HLF.out he
  have hA := ba (Below.refl w4.heap.size w4) (.cells #[.int .i64 k, .int .i64 m, .int .i64 p, .slice (some ⟨bn, 0, none⟩) 1 1, .slice (some ⟨bk, 0, none⟩) ks.length ck, .bool false, .int .i64 0, .slice none 0 0] 40)
  have hTt := Has.alloc w4 [.int .i64 k, .int .i64 m, .int .i64 p, .slice (some ⟨bn, 0, none⟩) 1 1, .slice (some ⟨bk, 0, none⟩) ks.length ck, .bool false, .int .i64 0, .slice none 0 0] 40
  obtain ⟨T, hTe⟩ : ∃ T, T = w4.heap.size := ⟨_, rfl⟩
  obtain ⟨W5, hW5⟩ : ∃ W, W = w4.alloc (.cells #[.int .i64 k, .int .i64 m, .int .i64 p, .slice (some ⟨bn, 0, none⟩) 1 1, .slice (some ⟨bk, 0, none⟩) ks.length ck, .bool false, .int .i64 0, .slice none 0 0] 40) := ⟨_, rfl⟩
  rw [← hTe, ← hW5] at hTt
  rw [← hW5] at hA
  have hnl := (hn.lt bn rfl).2
  have hkkl := (hk.lt bk rfl).2
  have hM : MoreSt w W5 W3.heap.size L T x k m p bn bk [nm] ks 1 ks.length 1 ck :=
    ⟨HL3.out.down (bt hb4 hA), hTt, row_down hn hA, row_down hk hA, ⟨hne, by omega, by omega, HL3.out.2.2, by have := hb4.size; omega, HB3.out.size, rfl, rfl⟩, bt HB3.out (bt hb4 hA)⟩
  have F1 : Fine 1 40 ⟨k, m, p, [nm], ks, false, 0, []⟩ := text_fine k m p [nm] ks hp3 hm3 (fun e => by rcases HK67.out with e' | e' <;> omega) ⟨by simp, by simp⟩ ⟨hkl.1, by omega⟩ (fun s hs => by rw [List.mem_singleton] at hs; subst hs; exact hnm) hk100
  have hk2 : ∀ s ∈ ks ++ [q.data.toList], s.length ≤ 100 := fun s hs => by
    rcases List.mem_append.1 hs with hs | hs
    · exact hk100 s hs
    · rw [List.mem_singleton] at hs; subst hs; have := HQ.out; omega
  have F2 : Fine 1 40 ⟨k, m, p, [nm], ks ++ [q.data.toList], false, 0, []⟩ := text_fine k m p [nm] _ hp3 hm3 (fun e => by rcases HK67.out with e' | e' <;> omega) ⟨by simp, by simp⟩ ⟨by simp, by rw [List.length_append, List.length_singleton]; omega⟩ (fun s hs => by rw [List.mem_singleton] at hs; subst hs; exact hnm) hk2
  have F3 : Fine 1 40 ⟨k, m, p, [nm] ++ [[99, 99]], ks ++ [q.data.toList], false, 0, []⟩ := text_fine k m p _ _ hp3 hm3 (fun e => by rcases HK67.out with e' | e' <;> omega) ⟨by simp, by simp⟩ ⟨by simp, by rw [List.length_append, List.length_singleton]; omega⟩ (fun s hs => by
    rcases List.mem_append.1 hs with hs | hs
    · rw [List.mem_singleton] at hs; subst hs; exact hnm
    · rw [List.mem_singleton] at hs; subst hs; decide) hk2
  have F4 : Fine 1 40 sureT := text_fine 8 2 1 _ _ (.inr ⟨.inr rfl, by decide⟩) (by decide) (fun _ => by decide) ⟨by decide, by decide⟩ ⟨by decide, by decide⟩ (by decide) (by decide)
  obtain ⟨pa, hpa⟩ : ∃ b, b = tstJ x fs ⟨k, m, p, [nm], ks, false, 0, []⟩ := ⟨_, rfl⟩
  obtain ⟨pb, hpb⟩ : ∃ b, b = tstJ x fs ⟨k, m, p, [nm], ks ++ [q.data.toList], false, 0, []⟩ := ⟨_, rfl⟩
  obtain ⟨pc, hpc⟩ : ∃ b, b = tstJ x fs ⟨k, m, p, [nm] ++ [[99, 99]], ks ++ [q.data.toList], false, 0, []⟩ := ⟨_, rfl⟩
  have hab : pa = true → pb = true := fun e => by rw [hpb]; rw [hpa] at e; exact more_keys x fs k m p _ _ _ HK67.out e
  have hbc : pb = true → pc = true := fun e => by rw [hpc]; rw [hpb] at e; exact more_names x fs k m p _ _ _ HK67.out e
  have HAB := Lib.hid hab; have HBC := Lib.hid hbc; have HPA := Lib.hid hpa; have HPB := Lib.hid hpb; have HPC := Lib.hid hpc
  have HF1 := Lib.hid F1; have HF2 := Lib.hid F2; have HF3 := Lib.hid F3; have HF4 := Lib.hid F4
  have HM := Lib.hid hM
  obtain ⟨nk, hnk⟩ : ∃ nk, nk = ks.length := ⟨_, rfl⟩
  rw [← hnk] at HM hW5 ⊢
  have HNK : Hid (nk ≤ 2) := by unfold Hid; omega
  have HWe := Lib.hid hW5; have HTe := Lib.hid hTe
  clear hn hk hne he hb4 hm3 hp3 hnm hkl hk100 hA hTt hTe hW5 hnl hkkl hM F1 F2 F3 F4 hk2 hpa hpb hpc hab hbc hnk HX3 HL3 HB3 HTS HLF q0 q1 q2 q3 q4 q5
  go_upto_region 4 with fail
  rw [← HWe.out, ← HTe.out]
  clear HWe HTe
  obtain ⟨l0, l1, l2, l3, l4⟩ := ltt_get HM.out.l
  obtain ⟨t0, t1, t2, t3, t4, t5, t6, t7⟩ := Sc.has_oct' HM.out.t
  have HC := Lib.hid (HASK.out _ _ W5 HM.out.tv HF1.out HM.out.bel)
  rw [← HPA.out] at HC
  go_wp2_with fail
  refine HC.out.mono ?_
  rintro e w6 ⟨rfl, hb6⟩
  have HM6 := Lib.hid (HM.out.down hb6)
  clear HC hb6 HM HF1 HPA l0 l1 l2 l3 l4 t0 t1 t2 t3 t4 t5 t6 t7
  go_upto_region 5 with fail
  go_cut [] (fun wx => ∃ (g cap : Nat), MoreSt w wx W3.heap.size L T x k m p bn g [nm] (ks ++ [q.data.toList]) 1 (nk + 1) 1 cap)
  case first =>
    obtain ⟨i0, hi, hz0, hz1, hz2⟩ := Sc.info_three Sc.info_str
    have HI0 := Lib.hid hi; have HZ0 := Lib.hid hz0; have HZ1 := Lib.hid hz1; have HZ2 := Lib.hid hz2
    have hb1 : Below w6.heap.size w6 (w6.drew.alloc (.cells #[.string q] 9)) := ba (Below.drew (Below.refl _ _)) _
    have hM7 := HM6.out.down hb1
    have e4 := HM6.out.t.1 4 _ rfl
    have d4 := moved e4 hb1 (Nat.le_refl _)
    have x4 := moved e4 (ba (Below.refl w6.heap.size w6) (.cells #[.string q] 9)) (Nat.le_refl _)
    have HM7 := Lib.hid hM7
    have HBS : Hid (W3.heap.size ≤ w6.heap.size) := by
      have h1 := HM6.out.ne; have h2 := HM6.out.t.2.2
      unfold Hid; omega
    clear hi hz0 hz1 hz2 hb1 hM7
    go_region_law (first
      | (refine step_append_lies _ (by rfl) _ _ _ (by rfl) W3.heap.size 9 i0 _ 1 16 Tryz.underlying37 HI0.out HZ0.out HZ1.out HZ2.out rfl (by omega) (.slice (some ⟨bk, 0, none⟩) nk ck) nk (strs ks) (by rfl) HM7.out.k
          ⟨w6.heap.size, 0, none⟩ 1 1 [.string q] (by rfl) (by rfl) (World.news_of_block (cs := #[.string q]) (t := 9) (fr := (0, 0)) (heap_alloc_new w6 _)) (by simp [Value.oneCell'])
          (by omega) (by have := HNK.out; unfold maxLen; omega) (by have := HNK.out; omega) (by have := HBS.out; simp; omega) (w6.heap.size + 1) (by simp) ?_
         intro g5 cap5 w5 hown5 hgrow5 hat5 hlt5
         have hkey := MoreSt.key HM7.out hown5 hgrow5 (by rcases hat5 with h | h; exact .inl h; exact .inr (by rw [h]; simp))
         have HKEY := Lib.hid hkey
         have hT5 := HM7.out.t.kept hgrow5 (fun e => HM7.out.ne.2.2.1 (Option.some.inj e))
         have y4 := hT5.1 4 _ rfl
         have z4 := hT5.2.1 4 (by simp)
         clear hkey hT5)
      | (go_simp; go_at_call 18; refine (HSHT.out _).mono ?_; rintro e w' ⟨rfl, rfl⟩))
    all_goals
      go_wp2_with fail
      go_meet
      case rel => exact ⟨_, _, HKEY.out⟩
  case rest =>
    obtain ⟨gk, ck2, hM⟩ := hcut
    have HM := Lib.hid hM
    clear hM HM6 HSHT
    obtain ⟨l0, l1, l2, l3, l4⟩ := ltt_get HM.out.l
    obtain ⟨t0, t1, t2, t3, t4, t5, t6, t7⟩ := Sc.has_oct' HM.out.t
    have HC := Lib.hid (HASK.out _ _ wc HM.out.tv HF2.out HM.out.bel)
    rw [← HPB.out] at HC
    go_wp2_with fail
    refine HC.out.mono ?_
    rintro e w7 ⟨rfl, hb7⟩
    have HM7 := Lib.hid (HM.out.down hb7)
    clear HC hb7 HM HF2 HPB l0 l1 l2 l3 l4 t0 t1 t2 t3 t4 t5 t6 t7
    go_upto_region 7 with fail
    obtain ⟨t0, t1, t2, t3, t4, t5, t6, t7⟩ := Sc.has_oct' HM7.out.t
    obtain ⟨i0, hi, hz0, hz1, hz2⟩ := Sc.info_three Sc.info_str
    have HI0 := Lib.hid hi; have HZ0 := Lib.hid hz0; have HZ1 := Lib.hid hz1; have HZ2 := Lib.hid hz2
    have hM8 := HM7.out.down (ba (Below.refl w7.heap.size w7) (.cells #[.string ⟨#[99, 99]⟩] 9))
    have HM8 := Lib.hid hM8
    have HBS : Hid (W3.heap.size ≤ w7.heap.size) := by
      have h1 := HM7.out.ne; have h2 := HM7.out.t.2.2
      unfold Hid; omega
    clear hi hz0 hz1 hz2 hM8
    go_wp2_with (at_builtin; refine wpList_append_lies _ (by rfl) _ _ _ (by rfl) W3.heap.size 9 i0 _ 1 16 Tryz.underlying37 HI0.out HZ0.out HZ1.out HZ2.out rfl (by omega) (.slice (some ⟨bn, 0, none⟩) 1 1) 1 (strs [nm]) (by rfl) HM8.out.n ⟨w7.heap.size, 0, none⟩ 1 1 [.string ⟨#[99, 99]⟩] (by rfl) (by rfl) (World.news_of_block (cs := #[.string ⟨#[99, 99]⟩]) (t := 9) (fr := (0, 0)) (heap_alloc_new w7 _)) (by simp [Value.oneCell']) (by omega) (by unfold maxLen; omega) (by omega) (by have := HBS.out; simp; omega) (w7.heap.size + 1) (by simp) ?_)
    intro g8 cap8 w8 hown8 hgrow8 hat8 hlt8
    have hkey := MoreSt.name HM8.out hown8 hgrow8 (by rcases hat8 with h | h; exact .inl h; exact .inr (by rw [h]; simp))
    have hT8 := HM8.out.t.kept hgrow8 (fun e => HM8.out.ne.2.1 (Option.some.inj e))
    have y3 := hT8.1 3 _ rfl
    have z3 := hT8.2.1 3 (by simp)
    obtain ⟨W9, hW9⟩ : ∃ W, W = w8.setCell ⟨T, 3, none⟩ (.slice (some ⟨g8, 0, none⟩) (1 + 1) cap8) := ⟨_, rfl⟩
    rw [← hW9] at hkey
    have HM9 := Lib.hid hkey
    have HWe := Lib.hid hW9
    clear hkey hT8 hown8 hgrow8 hat8 hlt8 hW9 HM7 HM8 t0 t1 t2 t3 t4 t5 t6 t7
    go_upto_region 8 with fail
    rw [← HWe.out]
    clear HWe y3 z3
    obtain ⟨l0, l1, l2, l3, l4⟩ := ltt_get HM9.out.l
    obtain ⟨t0, t1, t2, t3, t4, t5, t6, t7⟩ := Sc.has_oct' HM9.out.t
    have HC := Lib.hid (HASK.out _ _ W9 HM9.out.tv HF3.out HM9.out.bel)
    rw [show tstJ x fs ⟨k, m, p, [nm] ++ [(⟨#[99, 99]⟩ : ByteArray).data.toList], ks ++ [q.data.toList], false, 0, []⟩ = pc from HPC.out.symm] at HC
    go_wp2_with fail
    refine HC.out.mono ?_
    rintro e w10 ⟨rfl, hb10⟩
    have HL := Lib.hid (HM9.out.l.down hb10)
    have HB := Lib.hid (bt HM9.out.bel hb10)
    clear HC hb10 HM9 HF3 HPC l0 l1 l2 l3 l4 t0 t1 t2 t3 t4 t5 t6 t7
    go_upto_region 9 with fail
    have hA := ba (Below.refl w10.heap.size w10) (.cells #[.string ⟨#[116, 111]⟩] 9)
    have hA2 := ba (Below.refl (w10.alloc (.cells #[.string ⟨#[116, 111]⟩] 9)).heap.size (w10.alloc (.cells #[.string ⟨#[116, 111]⟩] 9))) (.cells #[.string ⟨#[64]⟩] 9)
    have h1 := (Has.alloc w10 [.string ⟨#[116, 111]⟩] 9).down hA2
    have h2 := Has.alloc (w10.alloc (.cells #[.string ⟨#[116, 111]⟩] 9)) [.string ⟨#[64]⟩] 9
    rw [World.size_alloc] at h2
    have hb := bt hA hA2
    have HC := Lib.hid (HASK.out _ _ _ (sure_tv _ _ _ h1 h2) HF4.out (bt HB.out hb))
    rw [HSURE.out] at HC
    obtain ⟨l0, l1, l2, l3, l4⟩ := ltt_get HL.out
    obtain ⟨m0, m1, m2, m3, m4⟩ := ltt_get (HL.out.down hb)
    have HBB := Lib.hid (bt HB.out hb)
    clear hA hA2 h1 h2 hb HB HASK HF4
    go_wp2_with fail
    refine HC.out.mono ?_
    rintro e w11 ⟨rfl, hb11⟩
    have HB11 := Lib.hid (bt HBB.out hb11)
    clear HC hb11 HBB l0 l1 l2 l3 l4 m0 m1 m2 m3 m4 HL
    cases pa with
    | true =>
      obtain rfl := HAB.out rfl
      obtain rfl := HBC.out rfl
      go_wp2_with fail
      go_ret
      exact ⟨rfl, HB11.out⟩
    | false =>
      cases pb with
      | true =>
        obtain rfl := HBC.out rfl
        go_wp2_with fail
        go_ret
        exact ⟨rfl, HB11.out⟩
      | false =>
        cases pc with
        | true =>
          go_wp2_with fail
          go_ret
          exact ⟨rfl, HB11.out⟩
        | false =>
          go_wp2_with fail
          go_ret
          exact ⟨rfl, HB11.out⟩
end Go.Proofs.YtpfbkdbblpppdaaGreatDoor.Jd
