/-
  DERIVED. Sessions, line by line: plain laws (order, odd lines, many to whom, a session that is ready, lines of a body). No program in sight.
-/
import Derived.Test.YtdhepaeephmhiaaDoorLinePlain
import Derived.Test.YtdhepaeephmhiaaDoorWhoPlain
namespace Go.Proofs.YtdhepaeephmhiaaDoor
open Go.RowKit

def angL (a : Ad) : List UInt8 := 60 :: (a.1 ++ 64 :: (a.2 ++ [62]))
def zAd (l d : List UInt8) : Ad := (wordL l, wordL d ++ [46, 111, 114, 103])
theorem adrS_ok (x y : List UInt8) (hx : x.all isRn = true) (hy : y.all isRn = true) (hc : chk x y = 0) : adrS (angL (x, y)) = some (x, y) := by
  have h62 : Stops [62] := stops_cons 62 [] (by decide)
  have hrun := run_app x (64 :: (y ++ [62])) hx
  have h64 := stops_cons 64 (y ++ [62]) (by decide)
  rw [h64.1, List.append_nil, h64.2] at hrun
  have ha := addr_lt true (60 :: (x ++ 64 :: (y ++ [62]))) (x ++ 64 :: (y ++ [62])) rfl
  rw [hrun.1, hrun.2, bare_plain x y [62] hy h62 hc] at ha
  have ha' : addrL' true (angL (x, y)) = some ((x, y), []) := ha
  have hl := list_end ha' rfl
  unfold adrS
  rw [hl]
  exact if_pos rfl
theorem adrS_z (l d : List UInt8) : adrS (angL (zAd l d)) = some (zAd l d) := adrS_ok _ _ (word_rn l) (dom_rn d) (chk_words l d)
theorem zAd_chk (l d : List UInt8) : chk (zAd l d).1 (zAd l d).2 = 0 := chk_words l d
theorem wordL_len8 (l : List UInt8) : (wordL l).length ≤ 8 := wordL_le l
theorem angL_len (l d : List UInt8) : (angL (zAd l d)).length ≤ 23 := by
  have h1 := wordL_len8 l; have h2 := wordL_len8 d
  simp only [angL, zAd, List.length_cons, List.length_append, List.length_nil]; omega
theorem restL_self (w t : List UInt8) : restL (w ++ t) w = some t := by
  unfold restL
  rw [if_neg (by rw [List.length_append]; omega), List.take_left, if_pos rfl, List.drop_left]
theorem restL_fold (w v t : List UInt8) (hl : v.length = w.length) (h : foldL v = foldL w) : restL (v ++ t) w = some t := by
  unfold restL
  rw [← hl, if_neg (by rw [List.length_append]; omega), List.take_left, if_pos h, List.drop_left]
theorem restL_other (c d : UInt8) (l w : List UInt8) (h : sml c ≠ sml d) : restL (c :: l) (d :: w) = none := by
  unfold restL
  split
  · rfl
  · rw [if_neg]
    intro e
    simp [foldL] at e
    exact h e.1
theorem cmdL {s : Ses} {line : List UInt8} {known : List (List UInt8)} {name : List UInt8} (h : ¬ 300 < line.length) (h1 : restL line wLHLO = some name) : commandS s line known = if chk [120] name ≠ 0 then (s, 501) else (ses0 1, 250) := by
  unfold commandS; rw [if_neg h, h1]
theorem cmdM {s : Ses} {line : List UInt8} {known : List (List UInt8)} {t : List UInt8} (h : ¬ 300 < line.length) (h1 : restL line wLHLO = none) (h2 : restL line wMAIL = some t) : commandS s line known = mailS s t := by
  unfold commandS; rw [if_neg h, h1]; simp only; rw [h2]
theorem cmdR {s : Ses} {line : List UInt8} {known : List (List UInt8)} {t : List UInt8} (h : ¬ 300 < line.length) (h1 : restL line wLHLO = none) (h2 : restL line wMAIL = none) (h3 : restL line wRCPT = some t) : commandS s line known = rcptS s t known := by
  unfold commandS; rw [if_neg h, h1]; simp only; rw [h2]; simp only; rw [h3]
theorem lineC {s : Ses} {known : List (List UInt8)} {line : List UInt8} (h : s.step < 4) : lineS s known line = ((commandS s line known).1, (commandS s line known).2, []) := by
  unfold lineS; rw [if_neg (by omega), if_pos (by omega)]
theorem cmd_mail' (s : Ses) (t : List UInt8) (known : List (List UInt8)) (h : t.length ≤ 200) : commandS s (wMAIL ++ t) known = mailS s t :=
  cmdM (by rw [List.length_append]; show ¬ 300 < 10 + t.length; omega) (restL_other _ _ _ _ (by decide)) (restL_self _ _)
theorem cmd_rcpt' (s : Ses) (t : List UInt8) (known : List (List UInt8)) (h : t.length ≤ 200) : commandS s (wRCPT ++ t) known = rcptS s t known :=
  cmdR (by rw [List.length_append]; show ¬ 300 < 8 + t.length; omega) (restL_other _ _ _ _ (by decide)) (restL_other _ _ _ _ (by decide)) (restL_self _ _)
def wrcpt : List UInt8 := [114, 99, 112, 116, 32, 116, 111, 58]
theorem cmd_rcpt'' (s : Ses) (t : List UInt8) (known : List (List UInt8)) (h : t.length ≤ 200) : commandS s (wrcpt ++ t) known = rcptS s t known :=
  cmdR (by rw [List.length_append]; show ¬ 300 < 8 + t.length; omega) (restL_other _ _ _ _ (by decide)) (restL_other _ _ _ _ (by decide)) (restL_fold _ _ _ rfl (by decide))

/-! LineOrder -/
def wData : List UInt8 := [68, 65, 84, 65]
def ordS (a : Ad) : Nat → Ses
  | 0 => ses0 0
  | 1 => ses0 1
  | 2 => ⟨2, a, [], [], false⟩
  | _ => ⟨3, a, [a], [], false⟩
def ordL (a : Ad) : Nat → List UInt8
  | 0 => wMAIL ++ angL a
  | 1 => wRCPT ++ angL a
  | _ => wData
def ordN (a : Ad) : Nat → List UInt8
  | 0 => [108, 104, 108, 111, 32, 97]
  | 1 => wMAIL ++ angL a
  | 2 => wRCPT ++ angL a
  | _ => [78, 79, 79, 80]
def canT (i k : Nat) : Bool := (i == 1 && k == 0) || (i == 2 && k == 1) || (i == 3 && decide (0 < k))
theorem ord_good (l d : List UInt8) (i : Nat) : GoodSes (ordS (zAd l d) i) := by
  match i with
  | 0 => exact ses0_good (.inl (by omega))
  | 1 => exact ses0_good (.inl (by omega))
  | 2 => exact ⟨by show 2 ≤ 5; omega, Nat.zero_le _, Nat.zero_le _, zAd_chk l d, rfl, (fun a h => by cases h), List.Pairwise.nil, fun _ => ⟨rfl, rfl⟩⟩
  | i + 3 => exact ⟨by show 3 ≤ 5; omega, by show 1 ≤ 5; omega, Nat.zero_le _, zAd_chk l d, by rw [if_pos (by show 3 ≤ 3 ∧ 3 ≤ 4; omega)]; exact List.cons_ne_nil _ _, fun a h => by obtain rfl := List.mem_singleton.1 h; exact zAd_chk l d, List.pairwise_singleton _ _, fun _ => ⟨rfl, rfl⟩⟩
theorem ord_step (a : Ad) (i : Nat) : (ordS a i).step = min i 3 := by
  match i with
  | 0 => rfl
  | 1 => rfl
  | 2 => rfl
  | i + 3 => show 3 = min (i + 3) 3; omega
theorem ord_mail (l d : List UInt8) (s : Ses) (known : List (List UInt8)) : commandS s (wMAIL ++ angL (zAd l d)) known = if s.step ≠ 1 then (s, 503) else (⟨2, zAd l d, s.rcp, s.text, s.large⟩, 250) := by
  rw [cmd_mail' s _ known (Nat.le_trans (angL_len l d) (by decide))]
  unfold mailS
  rw [adrS_z]
theorem ord_rcpt (l d : List UInt8) (s : Ses) (known : List (List UInt8)) (hk : wordL l ∈ known) : commandS s (wRCPT ++ angL (zAd l d)) known = if s.step ≠ 2 ∧ s.step ≠ 3 then (s, 503) else if zAd l d ∈ s.rcp then (s, 250) else if s.rcp.length = 5 then (s, 452) else (⟨3, s.frm, s.rcp ++ [zAd l d], s.text, s.large⟩, 250) := by
  rw [cmd_rcpt' s _ known (Nat.le_trans (angL_len l d) (by decide))]
  unfold rcptS
  rw [adrS_z]
  have : ¬ (zAd l d).1 ∉ known := fun h => h hk
  simp only [if_neg this]
theorem ord_data (s : Ses) (known : List (List UInt8)) : commandS s wData known = if s.step ≠ 3 then (s, 503) else (⟨4, s.frm, s.rcp, s.text, s.large⟩, 354) := rfl
theorem ord_code (l d : List UInt8) (i k : Nat) (hi : i < 4) (hk : k < 3) : ((lineS (ordS (zAd l d) i) [wordL l] (ordL (zAd l d) k)).2.1 == 503) = !canT i k := by
  have hs := ord_step (zAd l d) i
  rw [lineC (by omega)]
  have hm : wordL l ∈ [wordL l] := List.mem_singleton_self _
  match k, hk with
  | 0, _ =>
    show ((commandS (ordS (zAd l d) i) (wMAIL ++ angL (zAd l d)) [wordL l]).2 == 503) = _
    rw [ord_mail]
    match i, hi with
    | 0, _ => rfl
    | 1, _ => rfl
    | 2, _ => rfl
    | 3, _ => rfl
  | 1, _ =>
    show ((commandS (ordS (zAd l d) i) (wRCPT ++ angL (zAd l d)) [wordL l]).2 == 503) = _
    rw [ord_rcpt _ _ _ _ hm]
    match i, hi with
    | 0, _ => rfl
    | 1, _ => rfl
    | 2, _ =>
      rw [if_neg (by show ¬ (2 ≠ 2 ∧ 2 ≠ 3); omega), if_neg (by show ¬ _ ∈ []; simp), if_neg (by show ¬ 0 = 5; omega)]; rfl
    | 3, _ =>
      rw [if_neg (by show ¬ (3 ≠ 2 ∧ 3 ≠ 3); omega), if_pos (by exact List.mem_singleton_self _)]; rfl
  | 2, _ =>
    show ((commandS (ordS (zAd l d) i) wData [wordL l]).2 == 503) = _
    rw [ord_data]
    match i, hi with
    | 0, _ => rfl
    | 1, _ => rfl
    | 2, _ => rfl
    | 3, _ => rfl
theorem ord_next (l d : List UInt8) (i : Nat) (hi : i < 4) : lineS (ordS (zAd l d) i) [wordL l] (ordN (zAd l d) i) = (ordS (zAd l d) (i + 1), 250, []) := by
  have hs := ord_step (zAd l d) i
  rw [lineC (by omega)]
  have hm : wordL l ∈ [wordL l] := List.mem_singleton_self _
  match i, hi with
  | 0, _ => rfl
  | 1, _ =>
    show ((commandS (ordS (zAd l d) 1) (wMAIL ++ angL (zAd l d)) [wordL l]).1, (commandS (ordS (zAd l d) 1) (wMAIL ++ angL (zAd l d)) [wordL l]).2, []) = _
    rw [ord_mail]; rfl
  | 2, _ =>
    show ((commandS (ordS (zAd l d) 2) (wRCPT ++ angL (zAd l d)) [wordL l]).1, (commandS (ordS (zAd l d) 2) (wRCPT ++ angL (zAd l d)) [wordL l]).2, []) = _
    rw [ord_rcpt _ _ _ _ hm, if_neg (by show ¬ (2 ≠ 2 ∧ 2 ≠ 3); omega), if_neg (by show ¬ _ ∈ []; simp), if_neg (by show ¬ 0 = 5; omega)]; rfl
  | 3, _ => rfl
def lastL (k : Nat) : List UInt8 := if k = 0 then [82, 83, 69, 84] else [81, 85, 73, 84]
theorem ord_last (a : Ad) (known : List (List UInt8)) (k : Nat) : lineS (ordS a 4) known (lastL k) = if k = 0 then (ses0 1, 250, []) else (ses0 5, 221, []) := by
  unfold lastL
  by_cases hk : k = 0
  · rw [if_pos hk, if_pos hk]; rfl
  · rw [if_neg hk, if_neg hk]; rfl

/-! LineOdd -/
def oddL (a : Ad) : List (List UInt8) := [[], [72, 69, 76, 79, 32, 97], [76, 72, 76, 79], [76, 72, 76, 79, 32], [76, 72, 76, 79, 32, 97, 32, 98], wMAIL ++ 32 :: angL a, wMAIL ++ [60, 62], wRCPT ++ [60, 97, 64, 98, 62, 32], wRCPT ++ [60, 110, 48, 110, 101, 64, 98, 62], [100, 97, 116, 97, 32], [78, 79, 79, 80, 32, 120], [113, 117, 105, 116, 46], wRCPT ++ [120, 32, 60, 97, 64, 98, 62], List.replicate 400 0]
theorem adrS_eq {t : List UInt8} {a : Ad} (h : adrS t = some a) : t = angL a := by
  unfold adrS at h
  split at h
  · split at h
    · rename_i hh; obtain rfl := Option.some.inj h; exact hh
    · cases h
  · cases h
theorem adrS_head {t : List UInt8} (h : t.head? ≠ some 60) : adrS t = none := by
  cases ha : adrS t with
  | none => rfl
  | some a => exact absurd (by rw [adrS_eq ha]; rfl) h
theorem mailS_bad {s : Ses} {t : List UInt8} (h : adrS t = none) : ∃ z, mailS s t = (s, z) ∧ 500 ≤ z := by
  unfold mailS
  split
  · exact ⟨503, rfl, by decide⟩
  · rw [h]; exact ⟨501, rfl, by decide⟩
theorem rcptS_bad {s : Ses} {t : List UInt8} {known : List (List UInt8)} (h : ∀ a, adrS t = some a → a.1 ∉ known) : ∃ z, rcptS s t known = (s, z) ∧ 500 ≤ z := by
  unfold rcptS
  split
  · exact ⟨503, rfl, by decide⟩
  · cases ha : adrS t with
    | none => exact ⟨501, rfl, by decide⟩
    | some a => simp only [if_pos (h a ha)]; exact ⟨550, rfl, by decide⟩
theorem none48 (l : List UInt8) : (48 : UInt8) ∉ wordL l := by
  unfold wordL
  split
  · decide
  · intro h
    obtain ⟨c, _, hc⟩ := List.mem_map.1 h
    have h2 : isAtom (lowB c) = true := low_atom c
    have h3 : (lowB c).toNat = 97 + c.toNat % 26 := by
      unfold lowB
      have := c.toNat_lt
      rw [UInt8.toNat_add, UInt8.toNat_mod]
      show (97 + c.toNat % 26) % 256 = _
      omega
    rw [hc] at h3
    have : (48 : UInt8).toNat = 48 := rfl
    omega
theorem odd_cmd (l d : List UInt8) (s : Ses) (o : List UInt8) (ho : o ∈ oddL (zAd l d)) : ∃ z, commandS s o [wordL l] = (s, z) ∧ 500 ≤ z := by
  have hlen := angL_len l d
  simp only [oddL, List.mem_cons, List.not_mem_nil, or_false] at ho
  rcases ho with rfl | rfl | rfl | rfl | rfl | rfl | rfl | rfl | rfl | rfl | rfl | rfl | rfl | rfl
  · exact ⟨500, rfl, by decide⟩
  · exact ⟨500, rfl, by decide⟩
  · exact ⟨500, rfl, by decide⟩
  · exact ⟨501, rfl, by decide⟩
  · exact ⟨501, rfl, by decide⟩
  · rw [cmd_mail' s _ _ (by rw [List.length_cons]; omega)]
    exact mailS_bad (adrS_head (by simp))
  · rw [cmd_mail' s _ _ (by decide)]
    exact mailS_bad (by decide)
  · rw [cmd_rcpt' s _ _ (by decide)]
    exact rcptS_bad (fun a ha => by rw [show adrS [60, 97, 64, 98, 62, 32] = none by decide] at ha; cases ha)
  · rw [cmd_rcpt' s _ _ (by decide)]
    refine rcptS_bad (fun a ha => ?_)
    rw [show adrS [60, 110, 48, 110, 101, 64, 98, 62] = some ([110, 48, 110, 101], [98]) by decide] at ha
    obtain rfl := Option.some.inj ha
    intro hm
    have := List.mem_singleton.1 hm
    exact none48 l (by rw [← this]; decide)
  · exact ⟨500, rfl, by decide⟩
  · exact ⟨500, rfl, by decide⟩
  · exact ⟨500, rfl, by decide⟩
  · rw [cmd_rcpt' s _ _ (by decide)]
    exact rcptS_bad (fun a ha => by rw [adrS_head (by decide)] at ha; cases ha)
  · exact ⟨500, by unfold commandS; rw [if_pos (by rw [List.length_replicate]; decide)], by decide⟩
theorem odd_line (l d : List UInt8) (i : Nat) (o : List UInt8) (ho : o ∈ oddL (zAd l d)) : ∃ z, lineS (ordS (zAd l d) i) [wordL l] o = (ordS (zAd l d) i, z, []) ∧ 500 ≤ z := by
  have hs := ord_step (zAd l d) i
  obtain ⟨z, h1, h2⟩ := odd_cmd l d (ordS (zAd l d) i) o ho
  exact ⟨z, by rw [lineC (by omega), h1], h2⟩

/-! LineMany -/
def mnAd (i : Nat) : Ad := ([117], [100, UInt8.ofNat (97 + i)])
def mnS (a : Ad) (i : Nat) : Ses := ⟨if i = 0 then 2 else 3, a, (List.range i).map mnAd, [], false⟩
def mnL (i : Nat) : List UInt8 := wRCPT ++ angL (mnAd i)
theorem mn_chk : ∀ i < 10, adrS (angL (mnAd i)) = some (mnAd i) ∧ chk (mnAd i).1 (mnAd i).2 = 0 := by decide
theorem mn_ne : ∀ i < 10, mnAd i ∉ (List.range i).map mnAd := by decide
theorem mn_in : ∀ i < 6, 0 < i → mnAd 0 ∈ (List.range i).map mnAd := by decide
theorem mn_line (a : Ad) (i : Nat) (hi : i < 5) : lineS (mnS a i) [[117]] (mnL i) = (mnS a (i + 1), 250, []) := by
  have h := (mn_chk i (by omega)).1
  have hst : (mnS a i).step < 4 := by show (if i = 0 then 2 else 3) < 4; split <;> omega
  rw [lineC hst]
  unfold mnL
  rw [cmd_rcpt' _ _ _ (by show 6 ≤ 200; omega)]
  have hr : rcptS (mnS a i) (angL (mnAd i)) [[117]] = (mnS a (i + 1), 250) := by
    unfold rcptS
    rw [if_neg (by show ¬ ((if i = 0 then 2 else 3) ≠ 2 ∧ (if i = 0 then 2 else 3) ≠ 3); split <;> omega), h]
    simp only
    rw [if_neg (by intro h; exact h (List.mem_singleton_self _)), if_neg (show mnAd i ∉ (mnS a i).rcp from mn_ne i (by omega)), if_neg (by show ¬ ((List.range i).map mnAd).length = 5; rw [List.length_map, List.length_range]; omega)]
    unfold mnS
    rw [List.range_succ, List.map_append, if_neg (Nat.succ_ne_zero i)]
    rfl
  rw [hr]
theorem mn_full (a : Ad) (i : Nat) (hi : i < 10) (h5 : 5 ≤ i) : lineS (mnS a 5) [[117]] (mnL i) = (mnS a 5, 452, []) := by
  have h := (mn_chk i (by omega)).1
  have hst : (mnS a 5).step < 4 := by show 3 < 4; omega
  rw [lineC hst]
  unfold mnL
  rw [cmd_rcpt' _ _ _ (by show 6 ≤ 200; omega)]
  have hn : mnAd i ∉ (List.range 5).map mnAd := fun hm => mn_ne i hi (by
    obtain ⟨j, hj, he⟩ := List.mem_map.1 hm
    exact List.mem_map.2 ⟨j, List.mem_range.2 (by have := List.mem_range.1 hj; omega), he⟩)
  have hr : rcptS (mnS a 5) (angL (mnAd i)) [[117]] = (mnS a 5, 452) := by
    unfold rcptS
    rw [if_neg (by show ¬ (3 ≠ 2 ∧ 3 ≠ 3); omega), h]
    simp only
    rw [if_neg (by intro h; exact h (List.mem_singleton_self _)), if_neg (show mnAd i ∉ (mnS a 5).rcp from hn), if_pos (show (mnS a 5).rcp.length = 5 from rfl)]
  rw [hr]
theorem mn_again (a : Ad) (i : Nat) (hi : i ≤ 5) : lineS (mnS a i) [[117]] (mnL 0) = (mnS a (max 1 i), 250, []) := by
  by_cases h0 : i = 0
  · subst h0; exact mn_line a 0 (by omega)
  · have h := (mn_chk 0 (by omega)).1
    have hst : (mnS a i).step < 4 := by show (if i = 0 then 2 else 3) < 4; split <;> omega
    rw [lineC hst]
    unfold mnL
    rw [cmd_rcpt' _ _ _ (by show 6 ≤ 200; omega)]
    have hr : rcptS (mnS a i) (angL (mnAd 0)) [[117]] = (mnS a i, 250) := by
      unfold rcptS
      rw [if_neg (by show ¬ ((if i = 0 then 2 else 3) ≠ 2 ∧ (if i = 0 then 2 else 3) ≠ 3); split <;> omega), h]
      simp only
      rw [if_neg (by intro h; exact h (List.mem_singleton_self _)), if_pos (show mnAd 0 ∈ (mnS a i).rcp from mn_in i (by omega) (by omega))]
    rw [hr, show max 1 i = i by omega]
def mnBad : List UInt8 := wRCPT ++ angL ([118], [100, 97])
theorem mn_bad (a : Ad) (i : Nat) (_hi : i ≤ 5) : lineS (mnS a i) [[117]] mnBad = (mnS a i, 550, []) := by
  have hst : (mnS a i).step < 4 := by show (if i = 0 then 2 else 3) < 4; split <;> omega
  rw [lineC hst]
  unfold mnBad
  rw [cmd_rcpt' _ _ _ (by decide)]
  have hr : rcptS (mnS a i) (angL ([118], [100, 97])) [[117]] = (mnS a i, 550) := by
    unfold rcptS
    rw [if_neg (by show ¬ ((if i = 0 then 2 else 3) ≠ 2 ∧ (if i = 0 then 2 else 3) ≠ 3); split <;> omega), show adrS (angL ([118], [100, 97])) = some ([118], [100, 97]) by decide]
    simp only
    rw [if_pos (by decide)]
  rw [hr]
theorem mn_good {a : Ad} (ha : chk a.1 a.2 = 0) (i : Nat) (hi : i ≤ 5) : GoodSes (mnS a i) where
  step := by show (if i = 0 then 2 else 3) ≤ 5; split <;> omega
  some' := by show ((List.range i).map mnAd).length ≤ 5; rw [List.length_map, List.length_range]; omega
  text := Nat.zero_le _
  frm := by rw [if_pos (by show 2 ≤ (if i = 0 then 2 else 3) ∧ (if i = 0 then 2 else 3) ≤ 4; split <;> omega)]; exact ha
  rcp := by
    by_cases h0 : i = 0
    · subst h0; exact rfl
    · rw [if_pos (by show 3 ≤ (if i = 0 then 2 else 3) ∧ (if i = 0 then 2 else 3) ≤ 4; rw [if_neg h0]; omega)]
      exact List.ne_nil_of_length_pos (by show 0 < ((List.range i).map mnAd).length; rw [List.length_map, List.length_range]; omega)
  ok := fun b hb => by
    obtain ⟨j, hj, rfl⟩ := List.mem_map.1 hb
    exact (mn_chk j (by have := List.mem_range.1 hj; omega)).2
  names := by
    have : ∀ i ≤ 5, ((List.range i).map mnAd).Pairwise (· ≠ ·) := by decide
    exact this i hi
  body := fun _ => ⟨rfl, rfl⟩

/-! a session that is ready for the lines of a letter -/
def rdyS (f t : Ad) : Nat → Ses
  | 0 => ses0 0
  | 1 => ses0 1
  | 2 => ⟨2, f, [], [], false⟩
  | 3 => ⟨3, f, [t], [], false⟩
  | _ => ⟨4, f, [t], [], false⟩
def rdyL (f t : Ad) : Nat → List UInt8
  | 0 => [76, 72, 76, 79, 32, 120, 46, 121]
  | 1 => wMAIL ++ angL f
  | 2 => wrcpt ++ angL t
  | _ => wData
def rdyC (i : Nat) : Int := if i = 3 then 354 else 250
theorem rdy_good (l d l' d' : List UInt8) (i : Nat) : GoodSes (rdyS (zAd l d) (zAd l' d') i) := by
  match i with
  | 0 => exact ses0_good (.inl (by omega))
  | 1 => exact ses0_good (.inl (by omega))
  | 2 => exact ⟨by show 2 ≤ 5; omega, Nat.zero_le _, Nat.zero_le _, zAd_chk l d, rfl, (fun a h => by cases h), List.Pairwise.nil, fun _ => ⟨rfl, rfl⟩⟩
  | 3 => exact ⟨by show 3 ≤ 5; omega, by show 1 ≤ 5; omega, Nat.zero_le _, zAd_chk l d, by rw [if_pos (by show 3 ≤ 3 ∧ 3 ≤ 4; omega)]; exact List.cons_ne_nil _ _, fun a h => by obtain rfl := List.mem_singleton.1 h; exact zAd_chk l' d', List.pairwise_singleton _ _, fun _ => ⟨rfl, rfl⟩⟩
  | i + 4 => exact ⟨by show 4 ≤ 5; omega, by show 1 ≤ 5; omega, Nat.zero_le _, zAd_chk l d, by rw [if_pos (by show 3 ≤ 4 ∧ 4 ≤ 4; omega)]; exact List.cons_ne_nil _ _, fun a h => by obtain rfl := List.mem_singleton.1 h; exact zAd_chk l' d', List.pairwise_singleton _ _, fun h => absurd rfl h⟩
theorem rdy_next (l d l' d' : List UInt8) (i : Nat) (hi : i < 4) : lineS (rdyS (zAd l d) (zAd l' d') i) [wordL l'] (rdyL (zAd l d) (zAd l' d') i) = (rdyS (zAd l d) (zAd l' d') (i + 1), rdyC i, []) := by
  have hm : wordL l' ∈ [wordL l'] := List.mem_singleton_self _
  match i, hi with
  | 0, _ => rfl
  | 1, _ =>
    show lineS (ses0 1) [wordL l'] (wMAIL ++ angL (zAd l d)) = _
    rw [lineC (by show 1 < 4; omega), ord_mail]; rfl
  | 2, _ =>
    show lineS ⟨2, zAd l d, [], [], false⟩ [wordL l'] (wrcpt ++ angL (zAd l' d')) = _
    rw [lineC (by show 2 < 4; omega), cmd_rcpt'' _ _ _ (Nat.le_trans (angL_len l' d') (by decide))]
    have hr : rcptS ⟨2, zAd l d, [], [], false⟩ (angL (zAd l' d')) [wordL l'] = (⟨3, zAd l d, [zAd l' d'], [], false⟩, 250) := by
      unfold rcptS
      rw [adrS_z, if_neg (by show ¬ (2 ≠ 2 ∧ 2 ≠ 3); omega)]
      simp only
      rw [if_neg (fun h => h hm), if_neg (by simp), if_neg (by show ¬ 0 = 5; omega)]
      rfl
    rw [hr]
    rfl
  | 3, _ => rfl

/-! lines of a body -/
theorem lineB {s : Ses} {known : List (List UInt8)} {line : List UInt8} (h : s.step = 4) (hl : line ≠ [46]) : lineS s known line = (bodyS s line, 0, []) := by
  unfold lineS; rw [if_neg (by omega), if_neg (by omega), if_pos hl]
theorem lineE {s : Ses} {known : List (List UInt8)} (h : s.step = 4) : lineS s known [46] = (ses0 1, 0, s.rcp.map fun a => (s.frm, a, s.text)) := by
  unfold lineS; rw [if_neg (by omega), if_neg (by omega), if_neg (by simp)]
end Go.Proofs.YtdhepaeephmhiaaDoor
