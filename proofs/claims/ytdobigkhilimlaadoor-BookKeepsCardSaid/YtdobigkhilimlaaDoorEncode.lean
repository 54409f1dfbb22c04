/-
  DERIVED. 'Encode' of book: the walk.
-/
import Derived.Test.YtdobigkhilimlaaDoorBCheck
import Derived.Test.YtdobigkhilimlaaDoorWide
import Derived.Lib.AppendStr
import Derived.Lib.AppendIntMem
namespace Go.Proofs.YtdobigkhilimlaaDoor
open Go.RowKit

theorem strCells_bytes (l : List UInt8) : Lib.strCells ⟨l.toArray⟩ = bcells l := by
  simp [Lib.strCells, bcells]
theorem byte_small (n : Nat) (h : n < 256) : ((UInt8.ofNat n).toNat : Int) = n := by rw [UInt8.toNat_ofNat']; omega
theorem byte_of (n : Nat) : (n : Int) % 256 = ((UInt8.ofNat n).toNat : Int) := by
  rw [UInt8.toNat_ofNat']; show _ = ((n % 256 : Nat) : Int); omega
theorem textE_len (s : List UInt8) : (textE s).length = s.length + 2 := by unfold textE; rw [List.length_append, wideL_length]; omega
theorem entL_len (x : Ent) (h : Small x) : (entL x).length ≤ 2123 := by
  obtain ⟨_, _, _, h1, h2, h3⟩ := h
  unfold entL
  simp only [List.length_append, textE_len, wideL_length, List.length_cons, List.length_nil]
  omega
theorem entsL_len : ∀ (xs : List Ent), (∀ x ∈ xs, Small x) → (entsL xs).length ≤ xs.length * 2123
  | [], _ => Nat.le_refl _
  | x :: l, h => by
    have h1 := entL_len x (h x (List.mem_cons_self ..))
    have h2 := entsL_len l fun y hy => h y (List.mem_cons_of_mem _ hy)
    show (entL x ++ entsL l).length ≤ (l.length + 1) * 2123
    rw [List.length_append]; omega
theorem entsL_take (xs : List Ent) (j : Nat) (x : Ent) (h : xs[j]? = some x) : entsL (xs.take (j + 1)) = entsL (xs.take j) ++ entL x := by
  obtain ⟨hl, rfl⟩ := List.getElem?_eq_some_iff.1 h
  unfold entsL
  rw [List.take_succ_eq_append_getElem hl, List.flatMap_append]; simp
/-- what Encode's bytes are behind j entries -/
def encL (user : Nat) (xs : List Ent) (j : Nat) : List UInt8 := UInt8.ofNat user :: UInt8.ofNat xs.length :: entsL (xs.take j)
theorem encL_len (user : Nat) (xs : List Ent) (j : Nat) (h : ∀ x ∈ xs, Small x) (hl : xs.length ≤ 10) : (encL user xs j).length ≤ 21300 := by
  have h1 := entsL_len (xs.take j) fun x hx => h x (List.mem_of_mem_take hx)
  have h2 : (xs.take j).length ≤ xs.length := by rw [List.length_take]; omega
  show (entsL (xs.take j)).length + 1 + 1 ≤ _
  omega
theorem encL_all (user : Nat) (xs : List Ent) : encL user xs xs.length = batchL user xs := by unfold encL batchL; rw [List.take_length]
theorem encL_next (user : Nat) (xs : List Ent) (j : Nat) (x : Ent) (h : xs[j]? = some x) : encL user xs (j + 1) = encL user xs j ++ entL x := by
  unfold encL; rw [entsL_take xs j x h]; rfl
/-- an entry's texts, so many of them -/
def textsL (x : Ent) (q : Nat) : List UInt8 := ([x.box, x.to, x.text].take q).flatMap textE
theorem own_lit (w : World) (t : TypeId) (a b : UInt8) (base : Nat) (h : base ≤ w.heap.size) : OwnB (w.alloc (.cells #[.int .u8 a.toNat, .int .u8 b.toNat] t)) base t (.slice (some ⟨w.heap.size, 0, none⟩) 2 2) [a, b] :=
  ⟨rfl, .inr ⟨w.heap.size, 2, #[.int .u8 a.toNat, .int .u8 b.toNat], rfl, h, heap_alloc_new w _, Nat.le_refl _, by decide, rfl, rfl⟩⟩
theorem textsL_next (x : Ent) : textsL x 0 = [] ∧ textsL x 1 = textsL x 0 ++ textE x.box ∧ textsL x 2 = textsL x 1 ++ textE x.to ∧ textsL x 3 = textsL x 2 ++ textE x.text := by
  refine ⟨rfl, ?_, ?_, ?_⟩ <;> simp [textsL]
theorem entL_texts (x : Ent) : entL x = [UInt8.ofNat x.kind, UInt8.ofNat x.flags] ++ wideL x.uid 3 ++ textsL x 3 := by unfold entL textsL; simp
theorem news_pair (w : World) (o : Obj) (a0 a1 : Value) (t : TypeId) : ∀ j u, [a0, a1][j]? = some u → ((w.alloc o).alloc (.cells #[a0, a1] t)).cell? (Addr.add ⟨w.heap.size + 1, 0, none⟩ j) = some u := by
  intro j u hj
  rw [Addr.add_lit, Nat.zero_add]
  have := alloc_cell (w.alloc o) #[a0, a1] t j u (by simpa using hj)
  simpa using this
theorem index_0 (a b c : Value) (w : World) : (Instr.index 58 (.agg #[a, b, c]) (.int .i64 0)).run Tryd.prog w = .ok a w := by kernel_rfl
theorem index_1 (a b c : Value) (w : World) : (Instr.index 58 (.agg #[a, b, c]) (.int .i64 1)).run Tryd.prog w = .ok b w := by kernel_rfl
theorem index_2 (a b c : Value) (w : World) : (Instr.index 58 (.agg #[a, b, c]) (.int .i64 2)).run Tryd.prog w = .ok c w := by kernel_rfl
theorem texts_len (x : Ent) (q : Nat) (h : Small x) : (textsL x q).length ≤ 2118 := by
  obtain ⟨_, _, _, h1, h2, h3⟩ := h
  obtain ⟨e0, e1, e2, e3⟩ := textsL_next x
  have l1 : (textsL x 1).length = x.box.length + 2 := by rw [e1, e0, List.nil_append, textE_len]
  have l2 : (textsL x 2).length = (textsL x 1).length + (x.to.length + 2) := by rw [e2, List.length_append, textE_len]
  have l3 : (textsL x 3).length = (textsL x 2).length + (x.text.length + 2) := by rw [e3, List.length_append, textE_len]
  have l0 : (textsL x 0).length = 0 := by rw [e0]; rfl
  match q with
  | 0 => omega
  | 1 => omega
  | 2 => omega
  | q + 3 =>
    have : textsL x (q + 3) = textsL x 3 := by simp [textsL]
    rw [this]; omega
theorem below_own {B : Nat} {w wr w' : World} {base e size n : Nat} {v : Value} {l : List Value} (hb : Below B w wr) (hB : B ≤ w.heap.size) (h : wr.ownsRow base e size v n l) (hbase : B ≤ base) (g : wr.grownBy w' v.ownBlock) : Below B w w' := below_row hb hB h hbase g

set_option maxHeartbeats 8000000 in
set_option maxRecDepth 20000 in
theorem encode_any (user : Nat) (xs : List Ent) (v : Value) (m : Int) (w : World) (he : EntsAt w v xs) (hf : ∀ x ∈ xs, Fits x) (hu : user < 1000000) (hl : xs.length ≤ 1000000) (hm : w.cell? ⟨0, 0, none⟩ = some (.int .i64 m)) :
    Calls Tryd.prog 11 #[.agg #[.int .i64 user, v]] w fun e w' => (∃ v', e = .returned (.tuple #[v', .int .i64 (bcheckV user xs)]) ∧ OwnB w' w.heap.size 5 v' (if bcheckV user xs = 0 then batchL user xs else [])) ∧ Below w.heap.size w w' := by
  obtain ⟨i0, hi, hz0, hz1, hz2⟩ := info_parts infoU8
  have HI := Lib.hid hi; have HZ0 := Lib.hid hz0; have HZ1 := Lib.hid hz1; have HZ2 := Lib.hid hz2
  clear hi hz0 hz1 hz2
  have hb0 := ba (Below.refl _ w) (.cells #[.int .i64 user, v] 25)
  have HC : Hid (∀ w', Below w.heap.size w w' → Calls Tryd.prog 14 #[.agg #[.int .i64 user, v]] w' fun e w'' => e = .returned (.int .i64 (bcheckV user xs)) ∧ Below w'.heap.size w' w'') :=
    fun w' hb => bcheck_any user xs v m w' (he.down hb) hf hu hl (moved hm hb (Nat.le_refl _))
  have HEA : Hid (∀ w', Below w.heap.size w w' → EntsAt w' v xs) := fun w' hb => he.down hb
  have HW : Hid (∀ (base : Nat) (v : Value) (l : List UInt8) (n k : Nat) (w : World), OwnB w base 5 v l → base ≤ w.heap.size → k ≤ 3 → n < 16777216 → l.length ≤ 200000 → Calls Tryd.prog 24 #[v, .int .i64 n, .int .i64 k] w fun e w' => ∃ v', e = .returned v' ∧ OwnB w' base 5 v' (l ++ wideL n k) ∧ OGrows w w' v v') := wide_any
  have HB0 := Lib.hid hb0; have H0 := Has.alloc w [.int .i64 user, v] 25
  have HH0 := Lib.hid H0
  clear hb0 H0 hm
  by_cases hz : bcheckV user xs = 0
  · obtain ⟨hu3, hlen, hform⟩ := bcheck_inv hz
    have HS : Hid (∀ x ∈ xs, Small x) := fun x hx => small_of_form (hform x hx)
    obtain ⟨G, cap, hv, hat⟩ := he
    subst hv
    rw [hz]
    rw [hz] at HC
    have HZ := Lib.hid hz
    clear hz hform hat hf
    have hbu := Lib.hid (byte_of user); have hbl := Lib.hid (byte_of xs.length)
    go_enter Tryd.func11, Tryd.ntmps11
    go_wp2_with fail
    refine (HC.out _ HB0.out).mono ?_
    rintro e w1 ⟨rfl, hb1⟩
    obtain ⟨c0, c1, p0, p1⟩ := (HH0.out.down hb1).two
    have HW1 := Lib.hid (bt HB0.out hb1)
    have hsz1 := HW1.out.size
    have hlt1 : w.heap.size < w1.heap.size := (HH0.out.down hb1).2.2
    clear hb1
    have hlit := own_lit w1 5 (UInt8.ofNat user) (UInt8.ofNat xs.length) w.heap.size HW1.out.size
    rw [byte_small user (by omega), byte_small xs.length (by omega)] at hlit
    have HLIT : Hid (OwnB (w1.alloc (.cells #[.int .u8 user, .int .u8 xs.length] 5)) w.heap.size 5 (.slice (some ⟨w1.heap.size, 0, none⟩) 2 2) (encL user xs 0)) := hlit
    clear hlit hbu hbl
    go_wp2_with fail
    clear c0 c1 p0 p1
    go_loopw [5, 26] (fun v i wr => ∃ j : Nat, j ≤ xs.length ∧ i = .int .i64 j ∧ OwnB wr w.heap.size 5 v (encL user xs j) ∧ Below w.heap.size w wr) (fun _ i _ => xs.length - (intOf i).toNat)
    case atStart => exact ⟨0, Nat.zero_le _, rfl, HLIT.out, ba HW1.out _⟩
    case round =>
      obtain ⟨j, hj, rfl, hown, hb⟩ := hrel
      by_cases hltj : j < xs.length
      · obtain ⟨x, hx⟩ : ∃ x, xs[j]? = some x := ⟨_, List.getElem?_eq_getElem hltj⟩
        obtain ⟨g, hG, hg, hin⟩ : ∃ g, G = some ⟨g, 0, none⟩ ∧ g < wr.heap.size ∧ EntIn wr g j x := by
          obtain ⟨G', cap', h1, h2⟩ := HEA.out wr hb
          cases h1
          exact h2 j x hx
        obtain ⟨m0, m1, m2, m3, m4, m5⟩ := hin
        subst hG
        have HSM := Lib.hid (HS.out x (List.mem_of_getElem? hx))
        obtain ⟨hk256, hu24, hf256, hbl, htl, htx⟩ := HSM.out
        have hnext := Lib.hid (encL_next user xs j x hx)
        have hlL := encL_len user xs j HS.out (by omega)
        obtain ⟨L, hL⟩ : ∃ L, L = encL user xs j := ⟨_, rfl⟩
        rw [← hL] at hown hlL hnext
        have hbk := byte_small x.kind (by omega); have hbf := byte_small x.flags (by omega)
        have hbcell : Hid (bcells [UInt8.ofNat x.kind, UInt8.ofNat x.flags] = [.int .u8 x.kind, .int .u8 x.flags]) := by unfold Hid bcells; simp only [List.map_cons, List.map_nil, hbk, hbf]
        have HB := Lib.hid hb; have HO := Lib.hid hown
        have hsz := hb.size
        clear hx hL hown hb hbk hbf
        go_wp2_with (at_builtin; refine wpList_append_lies _ (by rfl) _ _ _ (by rfl) w.heap.size 5 i0 _ 1 1 Tryd.underlying27 HI.out HZ0.out HZ1.out HZ2.out rfl (by omega) u5 L.length (bcells L) (by rfl) ((World.ownsRow.alloc HO.out _).alloc _) ⟨wr.heap.size + 1, 0, none⟩ 2 2 [.int .u8 x.kind, .int .u8 x.flags] (by rfl) (by rfl) (news_pair wr _ _ _ _) (by simp [Value.oneCell']) (by omega) (by unfold maxLen; omega) (by omega) (by simp; omega) (wr.heap.size + 2) (by simp) ?_)
        intro g3 cap3 w3 hown3 hgrow hat hlt3
        have hul : ∀ k, u5.ownBlock = some k → k < wr.heap.size := fun k hk => (World.ownsRow.lt HO.out k hk).2
        have hX3 : Has w3 wr.heap.size [.int .i64 x.kind, .string ⟨x.box.toArray⟩, .int .i64 x.uid, .int .i64 x.flags, .string ⟨x.to.toArray⟩, .string ⟨x.text.toArray⟩] :=
          ((Has.alloc wr [.int .i64 x.kind, .string ⟨x.box.toArray⟩, .int .i64 x.uid, .int .i64 x.flags, .string ⟨x.to.toArray⟩, .string ⟨x.text.toArray⟩] 56).down (ba (Below.refl _ _) _)).kept hgrow (by intro e; have := hul _ e.symm; omega)
        have hb3 : Below w.heap.size w w3 := below_row (ba (ba HB.out _) _) (Nat.le_refl _) ((World.ownsRow.alloc HO.out _).alloc _) (Nat.le_refl _) hgrow
        have hne3 : g3 ≠ wr.heap.size := by
          rcases hat with h | h
          · have := hul _ h; omega
          · omega
        have ho3 : OwnB w3 w.heap.size 5 (.slice (some ⟨g3, 0, none⟩) (L.length + 2) cap3) (L ++ [UInt8.ofNat x.kind, UInt8.ofNat x.flags]) := by
          unfold OwnB
          rw [bcells_append, hbcell.out, List.length_append]
          exact hown3
        have hl3 : (L ++ [UInt8.ofNat x.kind, UInt8.ofNat x.flags]).length ≤ 22000 := by rw [List.length_append]; show L.length + 2 ≤ _; omega
        obtain ⟨L2, hL2⟩ : ∃ L2, L2 = L ++ [UInt8.ofNat x.kind, UInt8.ofNat x.flags] := ⟨_, rfl⟩
        have hfull : Hid (encL user xs (j + 1) = L2 ++ wideL x.uid 3 ++ textsL x 3) := by
          unfold Hid; rw [hnext.out, entL_texts, hL2]; simp only [List.append_assoc]
        rw [← hL2] at ho3 hl3
        have HO3 := Lib.hid ho3; have HB3 := Lib.hid hb3; have HX3 := Lib.hid hX3
        have hs3 := hb3.size
        obtain ⟨c0, c1, c2, c3, c4, c5⟩ := hX3.six
        clear hL2 ho3 hb3 hX3 hown3 hgrow hat hul m0 m1 m2 m3 m4 m5 hbcell hnext HO HB
        go_wp2_with fail
        refine (HW.out w.heap.size _ L2 x.uid 3 _ HO3.out hs3 (by omega) (by omega) (by omega)).mono ?_
        rintro e w4 ⟨v4, rfl, ho4, hg4⟩
        have hX4 := HX3.out.kept hg4.1 (by show some wr.heap.size ≠ some g3; intro e; exact hne3 (Option.some.inj e).symm)
        have hb4 := Lib.hid (HB3.out.trans (hg4.below HO3.out (Nat.le_refl _) hs3))
        have hl4 : (L2 ++ wideL x.uid 3).length ≤ 22003 := by rw [List.length_append, wideL_length]; omega
        obtain ⟨L3, hL3⟩ : ∃ L3, L3 = L2 ++ wideL x.uid 3 := ⟨_, rfl⟩
        rw [← hL3] at ho4 hl4 hfull
        have HO4 := Lib.hid ho4
        clear c0 c1 c2 c3 c4 c5
        obtain ⟨c0, c1, c2, c3, c4, c5⟩ := hX4.six
        clear hL3 ho4 hX4 hg4 HO3 HB3 HX3 hl3
        go_wp2_with fail
        clear c0 c1 c2 c3 c4 c5
        go_loopw [5, 50] (fun v i wr => ∃ q : Nat, q ≤ 3 ∧ i = .int .i64 q ∧ OwnB wr w.heap.size 5 v (L3 ++ textsL x q) ∧ Below w.heap.size w wr) (fun _ i _ => 3 - (intOf i).toNat)
        case atStart => exact ⟨0, by omega, rfl, by rw [(textsL_next x).1, List.append_nil]; exact HO4.out, hb4.out⟩
        case round =>
          obtain ⟨q, hq3, rfl, hqo, hqb⟩ := hrel
          have hqq : q = 0 ∨ q = 1 ∨ q = 2 ∨ q = 3 := by omega
          rcases hqq with rfl | rfl | rfl | rfl
          · clear hq3
            have hLq : (L3 ++ textsL x 0).length ≤ 30000 := by have h1 := texts_len x 0 HSM.out; rw [List.length_append]; omega
            have hnx : Hid (((L3 ++ textsL x 0) ++ wideL x.box.length 2) ++ x.box = L3 ++ textsL x 1) := by unfold Hid; rw [(textsL_next x).2.1, textE, List.append_assoc, List.append_assoc]
            obtain ⟨P, hP⟩ : ∃ P, P = L3 ++ textsL x 0 := ⟨_, rfl⟩
            have hqo2 : OwnB wr w.heap.size 5 u5 P := by rw [hP]; exact hqo
            rw [← hP] at hLq hnx
            have hsf : (⟨x.box.toArray⟩ : ByteArray).size = x.box.length := by simp [ByteArray.size]
            have HQO := Lib.hid hqo2; have HQB := Lib.hid hqb; have HLQ := Lib.hid hLq
            have hqs := hqb.size
            clear hqo hqb hP hqo2 hLq
            have hix := index_0 (.string ⟨x.box.toArray⟩) (.string ⟨x.to.toArray⟩) (.string ⟨x.text.toArray⟩)
            go_wp2_with fail
            clear hix
            refine (HW.out w.heap.size u5 P x.box.length 2 _ HQO.out (by omega) (by omega) (by omega) (by have := HLQ.out; omega)).mono ?_
            rintro e w5 ⟨v5, rfl, ho5, hg5⟩
            have hb5 : Below w.heap.size wr w5 := hg5.below HQO.out (Nat.le_refl _) hqs
            have hB5 := Lib.hid (HQB.out.trans hb5)
            have hlen5 : (P ++ wideL x.box.length 2).length ≤ 30002 := by rw [List.length_append, wideL_length]; have := HLQ.out; omega
            obtain ⟨P5, hP5⟩ : ∃ P5, P5 = P ++ wideL x.box.length 2 := ⟨_, rfl⟩
            rw [← hP5] at hnx ho5 hlen5
            have HO5 := Lib.hid ho5
            have hs5 := hB5.out.size
            clear hP5 ho5 hg5 hb5 HQO HQB HLQ
            go_wp2_with (at_builtin; refine Lib.wpList_append_own_string _ (by rfl) _ _ 27 9 (by rfl) w.heap.size 5 i0 Tryd.underlying27 Tryd.underlying9 HI.out HZ0.out HZ1.out HZ2.out v5 P5.length (bcells P5) (by rfl) HO5.out ⟨x.box.toArray⟩ (by rfl) (by rw [hsf]; unfold maxLen; omega) (by rw [hsf]; omega) hs5 ?_)
            intro v6 w6 ho6 hg6 _
            have hb6 := Lib.hid (below_row hB5.out (Nat.le_refl _) HO5.out (Nat.le_refl _) hg6)
            have ho6' : Hid (OwnB w6 w.heap.size 5 v6 (L3 ++ textsL x 1)) := by
              unfold Hid OwnB
              rw [← hnx.out, bcells_append, List.length_append, ← strCells_bytes x.box, ← hsf]
              exact ho6
            clear ho6 hg6 HO5
            go_wp2_with fail
            go_roundw
            case rel => exact ⟨1, by omega, by go_num, ho6'.out, hb6.out⟩
            case measure => simp [intOf]
          · clear hq3
            have hLq : (L3 ++ textsL x 1).length ≤ 30000 := by have h1 := texts_len x 1 HSM.out; rw [List.length_append]; omega
            have hnx : Hid (((L3 ++ textsL x 1) ++ wideL x.to.length 2) ++ x.to = L3 ++ textsL x 2) := by unfold Hid; rw [(textsL_next x).2.2.1, textE, List.append_assoc, List.append_assoc]
            obtain ⟨P, hP⟩ : ∃ P, P = L3 ++ textsL x 1 := ⟨_, rfl⟩
            have hqo2 : OwnB wr w.heap.size 5 u5 P := by rw [hP]; exact hqo
            rw [← hP] at hLq hnx
            have hsf : (⟨x.to.toArray⟩ : ByteArray).size = x.to.length := by simp [ByteArray.size]
            have HQO := Lib.hid hqo2; have HQB := Lib.hid hqb; have HLQ := Lib.hid hLq
            have hqs := hqb.size
            clear hqo hqb hP hqo2 hLq
            have hix := index_1 (.string ⟨x.box.toArray⟩) (.string ⟨x.to.toArray⟩) (.string ⟨x.text.toArray⟩)
            go_wp2_with fail
            clear hix
            refine (HW.out w.heap.size u5 P x.to.length 2 _ HQO.out (by omega) (by omega) (by omega) (by have := HLQ.out; omega)).mono ?_
            rintro e w5 ⟨v5, rfl, ho5, hg5⟩
            have hb5 : Below w.heap.size wr w5 := hg5.below HQO.out (Nat.le_refl _) hqs
            have hB5 := Lib.hid (HQB.out.trans hb5)
            have hlen5 : (P ++ wideL x.to.length 2).length ≤ 30002 := by rw [List.length_append, wideL_length]; have := HLQ.out; omega
            obtain ⟨P5, hP5⟩ : ∃ P5, P5 = P ++ wideL x.to.length 2 := ⟨_, rfl⟩
            rw [← hP5] at hnx ho5 hlen5
            have HO5 := Lib.hid ho5
            have hs5 := hB5.out.size
            clear hP5 ho5 hg5 hb5 HQO HQB HLQ
            go_wp2_with (at_builtin; refine Lib.wpList_append_own_string _ (by rfl) _ _ 27 9 (by rfl) w.heap.size 5 i0 Tryd.underlying27 Tryd.underlying9 HI.out HZ0.out HZ1.out HZ2.out v5 P5.length (bcells P5) (by rfl) HO5.out ⟨x.to.toArray⟩ (by rfl) (by rw [hsf]; unfold maxLen; omega) (by rw [hsf]; omega) hs5 ?_)
            intro v6 w6 ho6 hg6 _
            have hb6 := Lib.hid (below_row hB5.out (Nat.le_refl _) HO5.out (Nat.le_refl _) hg6)
            have ho6' : Hid (OwnB w6 w.heap.size 5 v6 (L3 ++ textsL x 2)) := by
              unfold Hid OwnB
              rw [← hnx.out, bcells_append, List.length_append, ← strCells_bytes x.to, ← hsf]
              exact ho6
            clear ho6 hg6 HO5
            go_wp2_with fail
            go_roundw
            case rel => exact ⟨2, by omega, by go_num, ho6'.out, hb6.out⟩
            case measure => simp [intOf]
          · clear hq3
            have hLq : (L3 ++ textsL x 2).length ≤ 30000 := by have h1 := texts_len x 2 HSM.out; rw [List.length_append]; omega
            have hnx : Hid (((L3 ++ textsL x 2) ++ wideL x.text.length 2) ++ x.text = L3 ++ textsL x 3) := by unfold Hid; rw [(textsL_next x).2.2.2, textE, List.append_assoc, List.append_assoc]
            obtain ⟨P, hP⟩ : ∃ P, P = L3 ++ textsL x 2 := ⟨_, rfl⟩
            have hqo2 : OwnB wr w.heap.size 5 u5 P := by rw [hP]; exact hqo
            rw [← hP] at hLq hnx
            have hsf : (⟨x.text.toArray⟩ : ByteArray).size = x.text.length := by simp [ByteArray.size]
            have HQO := Lib.hid hqo2; have HQB := Lib.hid hqb; have HLQ := Lib.hid hLq
            have hqs := hqb.size
            clear hqo hqb hP hqo2 hLq
            have hix := index_2 (.string ⟨x.box.toArray⟩) (.string ⟨x.to.toArray⟩) (.string ⟨x.text.toArray⟩)
            go_wp2_with fail
            clear hix
            refine (HW.out w.heap.size u5 P x.text.length 2 _ HQO.out (by omega) (by omega) (by omega) (by have := HLQ.out; omega)).mono ?_
            rintro e w5 ⟨v5, rfl, ho5, hg5⟩
            have hb5 : Below w.heap.size wr w5 := hg5.below HQO.out (Nat.le_refl _) hqs
            have hB5 := Lib.hid (HQB.out.trans hb5)
            have hlen5 : (P ++ wideL x.text.length 2).length ≤ 30002 := by rw [List.length_append, wideL_length]; have := HLQ.out; omega
            obtain ⟨P5, hP5⟩ : ∃ P5, P5 = P ++ wideL x.text.length 2 := ⟨_, rfl⟩
            rw [← hP5] at hnx ho5 hlen5
            have HO5 := Lib.hid ho5
            have hs5 := hB5.out.size
            clear hP5 ho5 hg5 hb5 HQO HQB HLQ
            go_wp2_with (at_builtin; refine Lib.wpList_append_own_string _ (by rfl) _ _ 27 9 (by rfl) w.heap.size 5 i0 Tryd.underlying27 Tryd.underlying9 HI.out HZ0.out HZ1.out HZ2.out v5 P5.length (bcells P5) (by rfl) HO5.out ⟨x.text.toArray⟩ (by rfl) (by rw [hsf]; unfold maxLen; omega) (by rw [hsf]; omega) hs5 ?_)
            intro v6 w6 ho6 hg6 _
            have hb6 := Lib.hid (below_row hB5.out (Nat.le_refl _) HO5.out (Nat.le_refl _) hg6)
            have ho6' : Hid (OwnB w6 w.heap.size 5 v6 (L3 ++ textsL x 3)) := by
              unfold Hid OwnB
              rw [← hnx.out, bcells_append, List.length_append, ← strCells_bytes x.text, ← hsf]
              exact ho6
            clear ho6 hg6 HO5
            go_wp2_with fail
            go_roundw
            case rel => exact ⟨3, by omega, by go_num, ho6'.out, hb6.out⟩
            case measure => simp [intOf]
          · have hrj : Hid (encL user xs (j + 1) = L3 ++ textsL x 3) := hfull
            rw [← hrj.out] at hqo
            have HQO := Lib.hid hqo; have HQB := Lib.hid hqb
            clear hqo hqb
            go_wp2_with fail
            go_roundw
            case rel => exact ⟨j + 1, by omega, by go_num, HQO.out, HQB.out⟩
            case measure => simp [intOf]; omega
      · obtain rfl : j = xs.length := by omega
        go_wp2_with fail
        go_ret2
        rw [encL_all] at hown
        exact ⟨⟨_, rfl, hown⟩, hb⟩
  · have HZ := Lib.hid hz
    rw [if_neg hz]
    clear hz
    obtain ⟨c, hc⟩ : ∃ c, c = bcheckV user xs := ⟨_, rfl⟩
    rw [← hc] at HC HZ ⊢
    have hne : ¬ c = 0 := HZ.out
    clear hc he hf
    go_enter Tryd.func11, Tryd.ntmps11
    go_wp2_with fail
    refine (HC.out _ HB0.out).mono ?_
    rintro e w1 ⟨rfl, hb1⟩
    have HW1 := Lib.hid (bt HB0.out hb1)
    clear hb1
    go_wp2_with fail
    go_ret2
    exact ⟨⟨_, rfl, World.ownsRow_nil _ _ _ _⟩, HW1.out⟩
end Go.Proofs.YtdobigkhilimlaaDoor
