/-
  DERIVED. The law TokenBlanks: its walk.
-/
import Derived.Test.YtpjiiipabbchiaaDoorTkJoin
import Derived.Test.YtpjiiipabbchiaaDoorTkLaid
import Derived.Test.YtpjiiipabbchiaaDoorTkToks
import Derived.Test.YtpjiiipabbchiaaDoorPcOpen
namespace Go.Proofs.YtpjiiipabbchiaaDoor
/-- what a slice of ints holds -/
def IntsAt (w : World) (a : Option Addr) (len : Nat) (z : Nat → Int) : Prop := ∀ i, i < len → ∃ b o, a = some ⟨b, o, none⟩ ∧ b < w.heap.size ∧ w.cell? ⟨b, o + i, none⟩ = some (.int .i64 (z i)) ∧ -9223372036854775808 ≤ z i ∧ z i ≤ 9223372036854775807
end Go.Proofs.YtpjiiipabbchiaaDoor
namespace Go.Proofs.YtpjiiipabbchiaaDoor.Tk
open Go.RowKit

def blkS : Array Value := #[.string ⟨#[32]⟩, .string ⟨#[9]⟩, .string ⟨#[13, 10]⟩, .string ⟨#[47, 42, 32, 97, 59, 32, 42, 47]⟩, .string ⟨#[47, 42, 42, 47, 32]⟩, .string ⟨#[35, 32, 98, 32, 123, 10]⟩, .string ⟨#[10, 35, 10]⟩]
theorem blk_at {i : Nat} (h : i < 7) : blkS[i]? = some (.string ⟨(blkL i).toArray⟩) := by
  have h' : i = 0 ∨ i = 1 ∨ i = 2 ∨ i = 3 ∨ i = 4 ∨ i = 5 ∨ i = 6 := by omega
  rcases h' with rfl | rfl | rfl | rfl | rfl | rfl | rfl <;> rfl
theorem bj_len : ∀ bs : List (Tok × List UInt8), (∀ p ∈ bs, GoodTok p.1 ∧ p.2.length ≤ 24) → (bj bs).length ≤ 87 * bs.length
  | [], _ => Nat.le_refl _
  | p :: bs, h => by
    obtain ⟨h1, h2⟩ := h p (List.mem_cons_self ..)
    have ih := bj_len bs (fun x hx => h x (List.mem_cons_of_mem _ hx))
    have hf := form_len h1
    show (formL p.1 ++ 32 :: p.2 ++ bj bs).length ≤ 87 * (bs.length + 1)
    rw [List.length_append, List.length_append, List.length_cons]
    omega
theorem bj_snoc (bs : List (Tok × List UInt8)) (t : Tok) (b : List UInt8) : bj (bs ++ [(t, b)]) = bj bs ++ (formL t ++ 32 :: b) := by simp [bj]
theorem cat_str (a b : List UInt8) : (⟨a.toArray⟩ : ByteArray) ++ ⟨b.toArray⟩ = ⟨(a ++ b).toArray⟩ := by
  rw [← Lib.mk_data ((⟨a.toArray⟩ : ByteArray) ++ ⟨b.toArray⟩)]
  congr 2
theorem SAt.sub {w : World} {F : Dom} {g off n cap j : Nat} {ts : List Tok} {c : Nat} (h : SAt cTok w F (.slice (some ⟨g, off, none⟩) n cap) ts) (hj : j < ts.length) (hc : 1 ≤ c) : SAt cTok w F (.slice (some ⟨g, off + j * 3, none⟩) 1 c) [ts[j]] := by
  obtain ⟨G, cap', e, h1, h2⟩ := h
  injection e with e1 e2 e3
  refine ⟨_, c, rfl, hc, fun i x hi => ?_⟩
  cases i with
  | zero =>
    obtain rfl : ts[j] = x := by simpa using hi
    obtain ⟨g', off', hG, hF, hg, hx⟩ := h2 j _ (List.getElem?_eq_getElem hj)
    rw [← e1] at hG
    injection hG with hG
    injection hG with q1 q2
    subst q1; subst q2
    refine ⟨g, off + j * 3, rfl, hF, hg, ?_⟩
    have e : off + j * 3 + 0 * cTok.size = off + j * cTok.size := by rw [Nat.zero_mul]; rfl
    rw [e]
    exact hx
  | succ i => simp at hi

set_option maxHeartbeats 8000000 in
set_option maxRecDepth 20000 in
theorem tokenBlanks_any (v : Value) (ps : List Pc) (a1 : Option Addr) (len1 cap1 : Nat) (z1 : Nat → Int) (mx : Int) (w : World) (hv : SAt cPc w (fun _ => True) v ps) (hp : ∀ p ∈ ps, GoodPc p) (hz : IntsAt w a1 len1 z1) (_ : len1 ≤ maxLen) (htab : Lib.TabIs Tryd.prog w "internal/strconv.uint64pow10" .u64 Lib.pow10Tab) (hev : ∃ te pe, w.cell? ⟨5, 0, none⟩ = some (.iface te pe)) (hm : w.cell? ⟨0, 0, none⟩ = some (.int .i64 mx)) :
    Calls Tryd.prog 4 #[v, .slice a1 len1 cap1] w fun e w' => e = .returned (.bool true) ∧ Below w.heap.size w w' := by
  obtain ⟨te, pe, hev⟩ := hev
  have htk := tokens_any ps v _ 15 w hv hp (by omega)
  have hg := tokL_good 15 ps
  have hl := tokL_len 15 ps
  obtain ⟨ts, hts⟩ : ∃ ts, ts = tokL 15 ps := ⟨_, rfl⟩
  rw [← hts] at htk hg hl
  have hjoin : Hid (∀ (t : Tok) (v : Value) (F : Dom) (w' : World), t ∈ ts → SAt cTok w' F v [t] → Below w.heap.size w w' → Calls Tryd.prog 9 #[v] w' (JoinPost (formL t ++ [32], 0) w')) := fun t v F w' ht hs hb => by
    have h := join_any [t] v F mx w' hs (fun x hx => by rw [List.mem_singleton.1 hx]; have := (hg t ht).2; omega) (moved hm hb (Nat.le_refl _)) (tab_below htab hb)
    have hf := form_len (hg t ht)
    have e : jn [t] = formL t ++ [32] := by simp [jn]
    rw [(token_back (ts := [t]) (fun x hx => by rw [List.mem_singleton.1 hx]; exact (hg t ht).1) (by simp) (by rw [e, List.length_append]; simp; omega)).1, e] at h
    exact h
  have hcut : Hid (∀ (x : ByteArray) (w' : World), x.size ≤ 100000 → Below w.heap.size w w' → Calls Tryd.prog 10 #[.string x] w' (CutPost (cutL x.data.toList) w')) := fun x w' hx hb => cut_any x mx te pe w' hx (moved hm hb (Nat.le_refl _)) (moved hev hb (Nat.le_refl _))
  have HPK : Hid (∀ (n : Int) (w : World), -9223372036854775808 ≤ n → n ≤ 9223372036854775807 → Calls Tryd.prog 12 #[.int .i64 n, .int .i64 7] w fun e w' => e = .returned (.int .i64 (pick n (7 : Nat))) ∧ w = w') := fun n w h1 h2 => picked_any n 7 w h1 h2 (by omega) (by omega)
  have HTK := Lib.hid htk; have HG := Lib.hid hg; have HZ := Lib.hid hz
  clear htk hg hv hp hm hev htab hts hz
  go_enter Tryd.func4, Tryd.ntmps4
  go_wp2_with fail
  refine HTK.out.mono ?_
  rintro e w1 ⟨⟨v1, rfl, hs1⟩, hb1⟩
  obtain ⟨G1, c1, rfl, hc1⟩ := hs1.form
  have HS1 := Lib.hid hs1; have HB1 := Lib.hid hb1
  have hW1 : w.heap.size ≤ w1.heap.size := hb1.size
  have HR : Hid (∀ i, i < 7 → (w1.alloc (.cells #[.string ⟨#[32]⟩, .string ⟨#[9]⟩, .string ⟨#[13, 10]⟩, .string ⟨#[47, 42, 32, 97, 59, 32, 42, 47]⟩, .string ⟨#[47, 42, 42, 47, 32]⟩, .string ⟨#[35, 32, 98, 32, 123, 10]⟩, .string ⟨#[10, 35, 10]⟩] 9)).cell? ⟨w1.heap.size, i, none⟩ = some (.string ⟨(blkL i).toArray⟩)) := fun i hi => alloc_cell w1 blkS 9 i _ (blk_at hi)
  obtain ⟨W2, hW2⟩ : ∃ W2, W2 = w1.alloc (.cells #[.string ⟨#[32]⟩, .string ⟨#[9]⟩, .string ⟨#[13, 10]⟩, .string ⟨#[47, 42, 32, 97, 59, 32, 42, 47]⟩, .string ⟨#[47, 42, 42, 47, 32]⟩, .string ⟨#[35, 32, 98, 32, 123, 10]⟩, .string ⟨#[10, 35, 10]⟩] 9) := ⟨_, rfl⟩
  rw [← hW2] at HR
  have HB2 : Hid (Below w.heap.size w W2) := by rw [hW2]; exact ba hb1 _
  have HS2 : Hid (SAt cTok W2 (fun b => w.heap.size ≤ b) (.slice G1 ts.length c1) ts) := by rw [hW2]; exact hs1.down (ba (Below.refl _ _) _)
  have HW2 := Lib.hid hW2.symm
  clear hs1 hb1 HTK HS1 HB1 hW2
  go_wp2_with fail
  rw [HW2.out]
  clear HW2
  go_loopw [7, 8] (fun s i wr => ∃ (j : Nat) (bs : List (Tok × List UInt8)), j ≤ ts.length ∧ i = .int .i64 j ∧ s = .string ⟨(bj bs).toArray⟩ ∧ bs.map Prod.fst = ts.take j ∧ Hid (∀ p ∈ bs, Blank p.2 ∧ p.2.length ≤ 24) ∧ Below W2.heap.size W2 wr) (fun _ i _ => ts.length - (intOf i).toNat)
  case atStart => exact ⟨0, [], Nat.zero_le _, rfl, rfl, rfl, fun p hp => by simp at hp, Below.refl _ _⟩
  case round =>
    obtain ⟨j, bs, hj, rfl, rfl, hmap, hbs, hbel⟩ := hrel
    have HMAP := Lib.hid hmap; have HBEL := Lib.hid hbel
    clear hmap
    by_cases hlt : j < ts.length
    · obtain ⟨g, off, vs, hG, hF, hg, -, -⟩ := (HS2.out.down hbel).get j hlt
      subst hG
      have hsub := SAt.sub (c := c1 - j) (HS2.out.down hbel) hlt (by omega)
      have HTJ : Hid (ts[j] ∈ ts) := List.getElem_mem hlt
      have HTE : Hid (ts.take (j + 1) = ts.take j ++ [ts[j]]) := List.take_succ_eq_append_getElem hlt
      generalize ts[j] = t at hsub HTJ HTE
      have HJN := Lib.hid (hjoin.out t _ _ wr HTJ.out hsub (bt HB2.out hbel))
      clear hbel hsub hF hg
      have hbl : (bj bs).length ≤ 100000 := by
        have h := bj_len bs (fun p hp => ⟨HG.out p.1 (by have h1 : p.1 ∈ bs.map Prod.fst := List.mem_map_of_mem hp; rw [HMAP.out] at h1; exact List.mem_of_mem_take h1), (hbs.out p hp).2⟩)
        have h2 : (bs.map Prod.fst).length = (ts.take j).length := by rw [HMAP.out]
        rw [List.length_map, List.length_take] at h2
        omega
      have hfl := form_len (HG.out t HTJ.out)
      go_wp2_with fail
      refine HJN.out.mono ?_
      intro e w3 hq
      unfold JoinPost at hq
      obtain ⟨rfl, hb3⟩ := hq
      have HB3 := Lib.hid (bt HBEL.out hb3)
      have HCS := Lib.hid (cat_str (bj bs) (formL t ++ [32]))
      have hsz : (⟨(bj bs).toArray⟩ : ByteArray).size = (bj bs).length := by show (List.toArray _).size = _; rw [List.size_toArray]
      have hsz2 : (⟨(formL t ++ [32]).toArray⟩ : ByteArray).size = (formL t).length + 1 := by show (List.toArray _).size = _; rw [List.size_toArray, List.length_append]; rfl
      clear hb3 HJN HBEL
      obtain ⟨F, hF⟩ : ∃ F, F = formL t := ⟨_, rfl⟩
      obtain ⟨S, hS⟩ : ∃ S, S = bj bs := ⟨_, rfl⟩
      rw [← hF, ← hS]
      rw [← hF] at HCS hsz2 hfl
      rw [← hS] at HCS hsz hbl
      have HF := Lib.hid hF; have HS := Lib.hid hS
      clear hF hS
      go_wp2_with fail
      rw [HCS.out]
      clear HCS
      go_loopw [7, 11] (fun s kv wi => ∃ (q : Nat) (b : List UInt8), q ≤ 3 ∧ q ≤ len1 ∧ kv = .int .i64 q ∧ s = .string ⟨(S ++ (F ++ 32 :: b)).toArray⟩ ∧ Hid (Blank b) ∧ b.length ≤ 8 * q ∧ Below W2.heap.size W2 wi) (fun _ kv _ => 3 - (intOf kv).toNat)
      case atStart => exact ⟨0, [], Nat.zero_le _, Nat.zero_le _, rfl, rfl, Blank.nil, Nat.zero_le _, HB3.out⟩
      case round =>
        obtain ⟨q, b, hq3, hql, rfl, rfl, hblk, hbl8, hbi⟩ := hrel
        by_cases hlq : q < len1
        · by_cases hq : q < 3
          · obtain ⟨gz, oz, hGz, -, hcz, hzr1, hzr2⟩ := HZ.out q hlq
            subst hGz
            have hcz' := moved hcz (HB2.out.trans (hbi.mono HB2.out.size)) (Nat.le_refl _)
            go_wp2_with fail
            refine (HPK.out _ _ (by unfold wrap64; omega) (by unfold wrap64; omega)).mono ?_
            rintro e wi2 ⟨rfl, rfl⟩
            have hx7 := pick_lt (wrap64 (z1 q + (j : Int) % 7)) 7 (by omega)
            obtain ⟨x, hx⟩ : ∃ x, x = pick (wrap64 (z1 q + (j : Int) % 7)) (7 : Nat) := ⟨_, rfl⟩
            rw [← hx] at hx7 ⊢
            have hcx := moved (HR.out x hx7) hbi (Nat.le_refl _)
            have hbb := Lib.hid (Blank.append hblk.out (blk_blank x))
            have hb8 := blk_len x
            obtain ⟨y, hy⟩ : ∃ y, y = blkL x := ⟨_, rfl⟩
            rw [← hy] at hcx hbb hb8
            have HC2 := Lib.hid (cat_str (S ++ (F ++ 32 :: b)) y)
            have hl2 : (S ++ (F ++ 32 :: b)).length ≤ 200000 := by rw [List.length_append, List.length_append, List.length_cons]; omega
            have HBI := Lib.hid hbi
            have hap : Hid (S ++ (F ++ 32 :: b) ++ y = S ++ (F ++ 32 :: (b ++ y))) := by unfold Hid; simp
            obtain ⟨U, hU⟩ : ∃ U, U = S ++ (F ++ 32 :: b) := ⟨_, rfl⟩
            rw [← hU] at HC2 hl2 hap ⊢
            clear hbi hx hy hcz hcz' hU
            go_wp2_with fail
            go_roundw
            case rel => exact ⟨q + 1, b ++ y, by omega, by omega, by go_num, congrArg Value.string (HC2.out.trans (congrArg (fun l : List UInt8 => (⟨l.toArray⟩ : ByteArray)) hap.out)), hbb, by rw [List.length_append]; omega, HBI.out⟩
            case measure => simp [intOf]; omega
          · have HBI := Lib.hid hbi
            have hrel2 : Hid (∀ p ∈ bs ++ [(t, b)], Blank p.2 ∧ p.2.length ≤ 24) := by
              intro p hp
              rcases List.mem_append.1 hp with h | h
              · exact hbs.out p h
              · rw [List.mem_singleton.1 h]; exact ⟨hblk.out, by show b.length ≤ 24; omega⟩
            have hs2 : Hid (S ++ (F ++ 32 :: b) = bj (bs ++ [(t, b)])) := by unfold Hid; rw [bj_snoc, ← HF.out, ← HS.out]
            clear hbi
            go_wp2_with fail
            go_roundw
            case rel => exact ⟨j + 1, bs ++ [(t, b)], by omega, by go_num, congrArg Value.string (congrArg (fun l : List UInt8 => (⟨l.toArray⟩ : ByteArray)) hs2.out), by rw [List.map_append, HMAP.out, HTE.out]; rfl, hrel2, HBI.out⟩
            case measure => simp [intOf]; omega
        · have HBI := Lib.hid hbi
          have hrel2 : Hid (∀ p ∈ bs ++ [(t, b)], Blank p.2 ∧ p.2.length ≤ 24) := by
            intro p hp
            rcases List.mem_append.1 hp with h | h
            · exact hbs.out p h
            · rw [List.mem_singleton.1 h]; exact ⟨hblk.out, by show b.length ≤ 24; omega⟩
          have hs2 : Hid (S ++ (F ++ 32 :: b) = bj (bs ++ [(t, b)])) := by unfold Hid; rw [bj_snoc, ← HF.out, ← HS.out]
          clear hbi
          go_wp2_with fail
          go_roundw
          case rel => exact ⟨j + 1, bs ++ [(t, b)], by omega, by go_num, congrArg Value.string (congrArg (fun l : List UInt8 => (⟨l.toArray⟩ : ByteArray)) hs2.out), by rw [List.map_append, HMAP.out, HTE.out]; rfl, hrel2, HBI.out⟩
          case measure => simp [intOf]; omega
    · obtain rfl : j = ts.length := by omega
      have hmap : bs.map Prod.fst = ts := by rw [HMAP.out, List.take_length]
      have hgb : ∀ p ∈ bs, GoodTok p.1 := fun p hp => HG.out p.1 (by rw [← hmap]; exact List.mem_map_of_mem hp)
      have hbn : bs.length = ts.length := by rw [← hmap, List.length_map]
      have hbl := bj_len bs (fun p hp => ⟨hgb p hp, (hbs.out p hp).2⟩)
      obtain ⟨k1, k2⟩ := token_blanks (ps := bs) (fun p hp => ⟨(hgb p hp).1, (hbs.out p hp).1⟩) (by omega) (by omega)
      rw [hmap] at k1
      obtain ⟨S, hS⟩ : ∃ S, S = bj bs := ⟨_, rfl⟩
      rw [← hS] at k1 k2 hbl ⊢
      have hSl : S.length ≤ 2000 := by omega
      have HS2' := Lib.hid (HS2.out.down hbel)
      have HBL := Lib.hid (bt HB2.out hbel)
      have hC1 := hcut.out ⟨S.toArray⟩ wr (by show (List.toArray _).size ≤ _; rw [List.size_toArray]; omega) HBL.out
      rw [show (⟨S.toArray⟩ : ByteArray).data.toList = S from rfl, k1] at hC1
      have HC1 := Lib.hid hC1
      have hC2 : Hid (∀ w', Below w.heap.size w w' → Calls Tryd.prog 10 #[.string ⟨#[47, 42, 32, 97, 32, 42, 47, 32, 35, 32, 98]⟩] w' (CutPost ([], 0, 0) w')) := fun w' hb => by
        have h := hcut.out ⟨#[47, 42, 32, 97, 32, 42, 47, 32, 35, 32, 98]⟩ w' (by decide) hb
        rwa [show (⟨#[47, 42, 32, 97, 32, 42, 47, 32, 35, 32, 98]⟩ : ByteArray).data.toList = [47, 42, 32, 97, 32, 42, 47, 32, 35, 32, 98] from rfl, blanks_none] at h
      have hC3 : Hid (∀ w', Below w.heap.size w w' → Calls Tryd.prog 10 #[.string (⟨S.toArray⟩ ++ ⟨#[47, 42]⟩)] w' (CutPost ([], S.length, 4) w')) := fun w' hb => by
        have e : ((⟨S.toArray⟩ : ByteArray) ++ ⟨#[47, 42]⟩).data.toList = S ++ [47, 42] := by simp
        have h := hcut.out (⟨S.toArray⟩ ++ ⟨#[47, 42]⟩) w' (by rw [← ByteArray.size_data, ← Array.length_toList, e, List.length_append]; simp; omega) hb
        rwa [e, k2] at h
      clear hbel hmap hgb hbn hbl k1 k2 hS hC1 HB2 HS2 hjoin hcut HMAP HBEL
      go_wp2_with fail
      refine HC1.out.mono ?_
      intro e w4 hq
      unfold CutPost at hq
      obtain ⟨⟨v4, rfl, hv4⟩, hb4⟩ := hq
      have HB4 := Lib.hid (bt HBL.out hb4); have HS4 := Lib.hid (HS2'.out.down hb4); have HV4 := Lib.hid hv4
      clear hb4 hv4 HBL HS2' HC1
      go_wp2_with fail
      refine (hC2.out w4 HB4.out).mono ?_
      intro e w5 hq
      unfold CutPost at hq
      obtain ⟨⟨v5, rfl, hv5⟩, hb5⟩ := hq
      obtain ⟨G5, c5, rfl, -⟩ := hv5.form
      have HB5 := Lib.hid (bt HB4.out hb5); have HS5 := Lib.hid (HS4.out.down hb5); have HV5 := Lib.hid (HV4.out.down hb5)
      clear hb5 hv5 HB4 HS4 HV4 hC2
      go_wp2_with fail
      refine (hC3.out w5 HB5.out).mono ?_
      intro e w6 hq
      unfold CutPost at hq
      obtain ⟨⟨v6, rfl, hv6⟩, hb6⟩ := hq
      have HB6 := Lib.hid (bt HB5.out hb6)
      have HSM := Lib.hid (same_any ts (by omega) (.slice G1 ts.length c1) v4 _ _ w6 (HS5.out.down hb6) (HV5.out.down hb6))
      clear hb6 hv6 HB5 HS5 HV5 hC3
      go_wp2_with fail
      refine HSM.out.mono ?_
      rintro e w7 ⟨rfl, hb7⟩
      have HB7 := Lib.hid (bt HB6.out hb7)
      clear hb7 HSM
      go_wp2_with fail
      go_ret
      exact ⟨rfl, HB7.out⟩
end Go.Proofs.YtpjiiipabbchiaaDoor.Tk
