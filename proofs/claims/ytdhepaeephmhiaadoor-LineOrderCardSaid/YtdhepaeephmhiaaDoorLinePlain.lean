/-
  DERIVED. Sessions, line by line: the plain side, no program in sight.
-/
import Derived.Test.YtdhepaeephmhiaaDoorList
import Derived.Test.YtdhepaeephmhiaaDoorGlob
namespace Go.Proofs.YtdhepaeephmhiaaDoor

abbrev Ad := List UInt8 × List UInt8
structure Ses where
  (step : Nat) (frm : Ad) (rcp : List Ad) (text : List UInt8) (large : Bool)
/-- a session that may be -/
structure GoodSes (s : Ses) : Prop where
  step : s.step ≤ 5
  some' : s.rcp.length ≤ 5
  text : s.text.length ≤ 2000
  frm : if 2 ≤ s.step ∧ s.step ≤ 4 then chk s.frm.1 s.frm.2 = 0 else s.frm = ([], [])
  rcp : if 3 ≤ s.step ∧ s.step ≤ 4 then s.rcp ≠ [] else s.rcp = []
  ok : ∀ a ∈ s.rcp, chk a.1 a.2 = 0
  names : s.rcp.Pairwise (· ≠ ·)
  body : s.step ≠ 4 → s.text = [] ∧ s.large = false
/-- behind a word, whatever its letters' size -/
def restL (line word : List UInt8) : Option (List UInt8) :=
  if line.length < word.length then none else if foldL (line.take word.length) = foldL word then some (line.drop word.length) else none
/-- an address in < and > -/
def adrS (t : List UInt8) : Option Ad :=
  match listL t with
  | some [a] => if t = 60 :: (a.1 ++ 64 :: (a.2 ++ [62])) then some a else none
  | _ => none
def mailS (s : Ses) (t : List UInt8) : Ses × Int :=
  if s.step ≠ 1 then (s, 503) else match adrS t with
    | none => (s, 501)
    | some a => (⟨2, a, s.rcp, s.text, s.large⟩, 250)
def rcptS (s : Ses) (t : List UInt8) (known : List (List UInt8)) : Ses × Int :=
  if s.step ≠ 2 ∧ s.step ≠ 3 then (s, 503) else match adrS t with
    | none => (s, 501)
    | some a => if a.1 ∉ known then (s, 550) else if a ∈ s.rcp then (s, 250) else if s.rcp.length = 5 then (s, 452) else (⟨3, s.frm, s.rcp ++ [a], s.text, s.large⟩, 250)
def wLHLO : List UInt8 := [76, 72, 76, 79, 32]
def wMAIL : List UInt8 := [77, 65, 73, 76, 32, 70, 82, 79, 77, 58]
def wRCPT : List UInt8 := [82, 67, 80, 84, 32, 84, 79, 58]
def ses0 (k : Nat) : Ses := ⟨k, ([], []), [], [], false⟩
def commandS (s : Ses) (line : List UInt8) (known : List (List UInt8)) : Ses × Int :=
  if 300 < line.length then (s, 500) else match restL line wLHLO with
    | some name => if chk [120] name ≠ 0 then (s, 501) else (ses0 1, 250)
    | none => match restL line wMAIL with
      | some t => mailS s t
      | none => match restL line wRCPT with
        | some t => rcptS s t known
        | none =>
          if foldL line = [100, 97, 116, 97] then (if s.step ≠ 3 then (s, 503) else (⟨4, s.frm, s.rcp, s.text, s.large⟩, 354))
          else if foldL line = [114, 115, 101, 116] then (ses0 (min s.step 1), 250)
          else if foldL line = [110, 111, 111, 112] then (s, 250)
          else if foldL line = [113, 117, 105, 116] then (ses0 5, 221)
          else (s, 500)
def bodyS (s : Ses) (line : List UInt8) : Ses :=
  let l := if line.head? = some 46 then line.tail else line
  let large := s.large || decide (2000 < s.text.length + l.length + 2)
  ⟨s.step, s.frm, s.rcp, if large then s.text else s.text ++ l ++ [13, 10], large⟩
/-- how a session goes on: the session, the code, the letters that are handed over -/
def lineS (s : Ses) (known : List (List UInt8)) (line : List UInt8) : Ses × Int × List (Ad × Ad × List UInt8) :=
  if s.step = 5 then (s, 0, []) else if s.step ≠ 4 then ((commandS s line known).1, (commandS s line known).2, []) else if line ≠ [46] then (bodyS s line, 0, []) else (ses0 1, 0, s.rcp.map fun a => (s.frm, a, s.text))

/-! what is read is an address that may be; what goes on may be -/
theorem bare_chk {loc l d r : List UInt8} (h : bareL loc l = some (d, r)) : chk loc d = 0 := by
  cases l with
  | nil => cases h
  | cons c t =>
    have h : (if c = 64 then (if chk loc (runT t) = 0 then some (runT t, runR t) else none) else none) = some (d, r) := h
    split at h
    · split at h
      · rename_i hc
        simp only [Option.some.injEq, Prod.mk.injEq] at h
        rw [← h.1]; exact hc
      · cases h
    · cases h
theorem addrP_chk : ∀ (k : Nat) (f : Bool) (l r : List UInt8) (a : Ad), addrP k f l = some (a, r) → chk a.1 a.2 = 0
  | 0, _, _, _, _, h => by cases h
  | k + 1, f, l, r, a, h => by
    rw [addrP] at h
    split at h
    · cases hq : quotL (skipL l).tail with
      | none => rw [hq] at h; cases h
      | some q => rw [hq] at h; exact addrP_chk k false q r a h
    · split at h
      · cases hb : bareL (runT (skipL l).tail) (runR (skipL l).tail) with
        | none => rw [hb] at h; cases h
        | some dr =>
          rw [hb] at h
          have h' : (if nextL dr.2 = 62 then some ((runT (skipL l).tail, dr.1), dr.2.tail) else none) = some (a, r) := h
          split at h'
          · simp only [Option.some.injEq, Prod.mk.injEq] at h'
            rw [← h'.1]; exact bare_chk hb
          · cases h'
      · split at h
        · cases hb : bareL (runT (skipL l)) (runR (skipL l)) with
          | none => rw [hb] at h; cases h
          | some dr =>
            rw [hb] at h
            have h' : some ((runT (skipL l), dr.1), dr.2) = some (a, r) := h
            simp only [Option.some.injEq, Prod.mk.injEq] at h'
            rw [← h'.1]; exact bare_chk hb
        · split at h
          · cases h
          · exact addrP_chk k false _ r a h
theorem listP_chk : ∀ (k : Nat) (l : List UInt8) (ys : List Ad), listP k l = some ys → ∀ a ∈ ys, chk a.1 a.2 = 0
  | 0, _, _, h => by cases h
  | k + 1, l, ys, h => by
    rw [listP] at h
    cases ha : addrL' true l with
    | none => rw [ha] at h; cases h
    | some q =>
      obtain ⟨xy, r⟩ := q
      have hxy := addrP_chk _ _ _ _ _ ha
      rw [ha] at h
      have h' : (if skipL r = [] then some [xy] else if nextL (skipL r) = 44 then (listP k (skipL r).tail).map (xy :: ·) else none) = some ys := h
      split at h'
      · obtain rfl := Option.some.inj h'
        intro a hm
        obtain rfl := List.mem_singleton.1 hm
        exact hxy
      · split at h'
        · cases hp : listP k (skipL r).tail with
          | none => rw [hp] at h'; cases h'
          | some zs =>
            rw [hp] at h'
            obtain rfl := Option.some.inj h'
            intro a hm
            rcases List.mem_cons.1 hm with rfl | hm
            · exact hxy
            · exact listP_chk k _ zs hp a hm
        · cases h'
theorem adrS_chk {t : List UInt8} {a : Ad} (h : adrS t = some a) : chk a.1 a.2 = 0 := by
  unfold adrS at h
  split at h
  · rename_i b hl
    split at h
    · obtain rfl := Option.some.inj h
      exact listP_chk _ _ _ hl _ (List.mem_singleton_self _)
    · cases h
  · cases h
theorem ses0_good {k : Nat} (hk : k ≤ 1 ∨ k = 5) : GoodSes (ses0 k) where
  step := by show k ≤ 5; omega
  some' := Nat.zero_le _
  text := Nat.zero_le _
  frm := by rw [if_neg (by show ¬ (2 ≤ k ∧ k ≤ 4); omega)]; rfl
  rcp := by rw [if_neg (by show ¬ (3 ≤ k ∧ k ≤ 4); omega)]; rfl
  ok := fun a h => by cases h
  names := List.Pairwise.nil
  body := fun _ => ⟨rfl, rfl⟩
theorem mailS_good {s : Ses} (t : List UInt8) (h : GoodSes s) : GoodSes (mailS s t).1 := by
  unfold mailS
  split
  · exact h
  · rename_i h1
    split
    · exact h
    · rename_i a ha
      have ht := h.rcp
      rw [if_neg (by omega)] at ht
      obtain ⟨b1, b2⟩ := h.body (by omega)
      exact ⟨by show 2 ≤ 5; omega, h.some', h.text, by rw [if_pos (by show 2 ≤ 2 ∧ 2 ≤ 4; omega)]; exact adrS_chk ha, by rw [if_neg (by show ¬ (3 ≤ 2 ∧ 2 ≤ 4); omega)]; exact ht, h.ok, h.names, fun _ => ⟨b1, b2⟩⟩
theorem rcptS_good {s : Ses} (t : List UInt8) (known : List (List UInt8)) (h : GoodSes s) : GoodSes (rcptS s t known).1 := by
  unfold rcptS
  split
  · exact h
  · rename_i h1
    split
    · exact h
    · rename_i a ha
      split
      · exact h
      · split
        · exact h
        · rename_i hm
          split
          · exact h
          · rename_i h5
            have hf := h.frm
            rw [if_pos (by omega)] at hf
            obtain ⟨b1, b2⟩ := h.body (by omega)
            have h6 := h.some'
            refine ⟨by show 3 ≤ 5; omega, by show (s.rcp ++ [a]).length ≤ 5; rw [List.length_append, List.length_singleton]; omega, h.text, by rw [if_pos (by show 2 ≤ 3 ∧ 3 ≤ 4; omega)]; exact hf, by rw [if_pos (by show 3 ≤ 3 ∧ 3 ≤ 4; omega)]; simp, ?_, ?_, fun _ => ⟨b1, b2⟩⟩
            · intro b hb
              rcases List.mem_append.1 hb with hb | hb
              · exact h.ok b hb
              · obtain rfl := List.mem_singleton.1 hb; exact adrS_chk ha
            · exact List.pairwise_append.2 ⟨h.names, List.pairwise_singleton _ _, fun b hb c hc => by obtain rfl := List.mem_singleton.1 hc; exact fun e => hm (e ▸ hb)⟩
theorem commandS_good {s : Ses} (line : List UInt8) (known : List (List UInt8)) (h : GoodSes s) : GoodSes (commandS s line known).1 := by
  unfold commandS
  split
  · exact h
  · split
    · split
      · exact h
      · exact ses0_good (.inl (Nat.le_refl _))
    · split
      · exact mailS_good _ h
      · split
        · exact rcptS_good _ _ h
        · split
          · split
            · exact h
            · rename_i h3
              have hf := h.frm; have ht := h.rcp
              rw [if_pos (by omega)] at hf ht
              exact ⟨by show 4 ≤ 5; omega, h.some', h.text, by rw [if_pos (by show 2 ≤ 4 ∧ 4 ≤ 4; omega)]; exact hf, by rw [if_pos (by show 3 ≤ 4 ∧ 4 ≤ 4; omega)]; exact ht, h.ok, h.names, fun e => absurd rfl e⟩
          · split
            · exact ses0_good (.inl (Nat.min_le_right _ _))
            · split
              · exact h
              · split
                · exact ses0_good (.inr rfl)
                · exact h
theorem bodyS_good {s : Ses} (line : List UInt8) (h : GoodSes s) (h4 : s.step = 4) : GoodSes (bodyS s line) := by
  unfold bodyS
  have hf := h.frm; have ht := h.rcp
  rw [if_pos (by omega)] at hf ht
  refine ⟨h.step, h.some', ?_, by show (if 2 ≤ s.step ∧ s.step ≤ 4 then _ else _); rw [if_pos (by omega)]; exact hf, by show (if 3 ≤ s.step ∧ s.step ≤ 4 then _ else _); rw [if_pos (by omega)]; exact ht, h.ok, h.names, fun e => absurd h4 e⟩
  have h0 := h.text
  simp only
  generalize (if line.head? = some 46 then line.tail else line) = l
  by_cases hl : (s.large || decide (2000 < s.text.length + l.length + 2)) = true
  · rw [if_pos hl]; exact h0
  · rw [if_neg hl]
    simp only [Bool.or_eq_true, decide_eq_true_eq, not_or] at hl
    simp only [List.length_append, List.length_cons, List.length_nil]
    omega
theorem lineS_good {s : Ses} (known : List (List UInt8)) (line : List UInt8) (h : GoodSes s) : GoodSes (lineS s known line).1 := by
  unfold lineS
  split
  · exact h
  · split
    · exact commandS_good _ _ h
    · split
      · exact bodyS_good _ h (by omega)
      · exact ses0_good (.inl (Nat.le_refl _))
end Go.Proofs.YtdhepaeephmhiaaDoor
