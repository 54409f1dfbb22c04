/-
  DERIVED. Merged of: ScInv, ScFixOpen, ScriptFixed.
-/
import Derived.Test.YtlgbmnmoobpkkaaDoorRdA
import Derived.Test.YtlgbmnmoobpkkaaDoorScMem
import Derived.Test.YtlgbmnmoobpkkaaDoorOpen
import Derived.Deep.Slices
import Derived.Deep.Fields
import Derived.ChangeSame
import Derived.SizedLaws
import Derived.Test.YtlgbmnmoobpkkaaDoorRdE
import Derived.Test.YtlgbmnmoobpkkaaDoorRdF
import Derived.Deep.RegionLaw
namespace Go.Proofs.YtlgbmnmoobpkkaaDoor.Sc
open Tk (Tok)

/-- the numbers among the tokens may be -/
def Nums (l : List Tok) : Prop := ∀ t ∈ l, t.kind = 3 → 0 ≤ t.num ∧ t.num ≤ 2147483647
/-- 'what is read is so, and what is shown of it has not more than three tokens for each that was read, and c more' -/
def Inv {α : Type} (c : Nat) (Q : α → Nat → Prop) (l : List Tok) (x : PR α) : Prop := ∀ a r, x = .ok (a, r) → Nums l → Nums r ∧ ∃ k, Q a k ∧ k + 3 * r.length ≤ 3 * l.length + c
theorem Inv.give {α : Type} {c : Nat} {Q : α → Nat → Prop} (l m : List Tok) (e : Int) : Inv c Q l (giveP m e) := fun _ _ h => by cases h
theorem Inv.err {α : Type} {c : Nat} {Q : α → Nat → Prop} (l : List Tok) (e : Nat × Int) : Inv c Q l (.error e) := fun _ _ h => by cases h
theorem Inv.ok {α : Type} {c : Nat} {Q : α → Nat → Prop} {l : List Tok} {a : α} {k : Nat} (h : Q a k) (hk : k ≤ c) : Inv c Q l (.ok (a, l)) := by
  intro a' r h' hn
  cases h'
  exact ⟨hn, k, h, by omega⟩
theorem Inv.bnd {α β : Type} {c c' : Nat} {Q : α → Nat → Prop} {Q' : β → Nat → Prop} {l : List Tok} {x : PR α} {f : α → List Tok → PR β} (h : Inv c Q l x) (hf : ∀ a k r, Q a k → Inv (c' + k) Q' r (f a r)) : Inv (c + c') Q' l (bnd x f) := by
  intro b r hb hn
  obtain ⟨a, q, e1, e2⟩ := bnd_inv hb
  obtain ⟨h1, k, h2, h3⟩ := h a q e1 hn
  obtain ⟨h4, k', h5, h6⟩ := hf a k q h2 b r e2 h1
  exact ⟨h4, k', h5, by omega⟩
theorem nums_tail {t : Tok} {r : List Tok} (h : Nums (t :: r)) : Nums r := fun s hs => h s (List.mem_cons_of_mem _ hs)
theorem inv_must (c : UInt8) (l : List Tok) : Inv 0 (fun _ k => k = 3) l (mustP c l) := by
  intro a r h hn
  unfold mustP at h
  cases he : eatP c l with
  | none => rw [he] at h; cases h
  | some q =>
    rw [he] at h
    obtain ⟨t, q', rfl, -, -⟩ := isP_cons (k := 5) (s := [c]) (l := l) (eat_some he).1
    obtain rfl : q = q' := (eat_some he).2.symm
    cases h
    exact ⟨nums_tail hn, 3, rfl, by simp; omega⟩
theorem inv_next (kd : Int) (l : List Tok) : Inv 0 (fun t k => k = 3 ∧ t.kind = kd ∧ (kd = 3 → 0 ≤ t.num ∧ t.num ≤ 2147483647)) l (nextP kd l) := by
  intro a r h hn
  cases l with
  | nil => cases h
  | cons t q =>
    unfold nextP at h
    simp only at h
    split at h
    · rename_i hk
      cases h
      exact ⟨nums_tail hn, 3, ⟨rfl, hk, fun e => hn a (List.mem_cons_self ..) (hk.trans e)⟩, by simp; omega⟩
    · cases h
theorem eat_inv {c : UInt8} {l q : List Tok} (he : eatP c l = some q) : l.length = q.length + 1 ∧ (Nums l → Nums q) := by
  obtain ⟨t, q', rfl, -, -⟩ := isP_cons (k := 5) (s := [c]) (l := l) (eat_some he).1
  obtain rfl : q = q' := (eat_some he).2.symm
  exact ⟨rfl, nums_tail⟩
theorem Inv.eat {α : Type} {c' : Nat} {Q : α → Nat → Prop} {c : UInt8} {l q : List Tok} {x : PR α} (he : eatP c l = some q) (h : Inv (c' + 3) Q q x) : Inv c' Q l x := by
  intro a r hx hn
  obtain ⟨e1, e2⟩ := eat_inv he
  obtain ⟨h1, k, h2, h3⟩ := h a r hx (e2 hn)
  exact ⟨h1, k, h2, by omega⟩
theorem Inv.weaken {α : Type} {c c' : Nat} {Q Q' : α → Nat → Prop} {l : List Tok} {x : PR α} (h : Inv c Q l x) (hc : c ≤ c') (hQ : ∀ a k, Q a k → Q' a k) : Inv c' Q' l x := by
  intro a r hx hn
  obtain ⟨h1, k, h2, h3⟩ := h a r hx hn
  exact ⟨h1, k, hQ a k h2, by omega⟩
theorem inv_moreS : ∀ (n : Nat) (l : List Tok), Inv 0 (fun ts k => (cms ts).length ≤ k) l (moreS n l)
  | 0, l => Inv.ok (k := 0) (Nat.le_refl _) (Nat.le_refl _)
  | n + 1, l => by
    rw [moreS]
    cases he : eatP 44 l with
    | none => exact Inv.ok (k := 0) (Nat.le_refl _) (Nat.le_refl _)
    | some q =>
      refine Inv.eat he ?_
      refine ((inv_next 4 q).bnd (c' := 0) (Q' := fun ts k => (cms ts).length ≤ k) fun t k r hk => ?_).weaken (by omega) (fun _ _ h => h)
      obtain ⟨rfl, -, -⟩ := hk
      refine ((inv_moreS n r).bnd (c' := 3) (Q' := fun ts k => (cms ts).length ≤ k) fun ts k r hk => ?_).weaken (by omega) (fun _ _ h => h)
      exact Inv.ok (k := 3 + k) (by show (cms ts).length + 2 ≤ _; omega) (Nat.le_refl _)
theorem inv_list (l : List Tok) : Inv 0 (fun ts k => 0 < ts.length ∧ (listT ts).length ≤ k) l (listP l) := by
  unfold listP
  cases he : eatP 91 l with
  | none =>
    refine ((inv_next 4 l).bnd (c' := 0) (Q' := fun ts k => 0 < ts.length ∧ (listT ts).length ≤ k) fun t k r hk => ?_).weaken (by omega) (fun _ _ h => h)
    obtain ⟨rfl, -, -⟩ := hk
    exact Inv.ok (k := 3) ⟨by simp, by show 1 ≤ 3; omega⟩ (by omega)
  | some q =>
    refine Inv.eat he ?_
    refine ((inv_next 4 q).bnd (c' := 3) (Q' := fun ts k => 0 < ts.length ∧ (listT ts).length ≤ k) fun t k r hk => ?_).weaken (by omega) (fun _ _ h => h)
    obtain ⟨rfl, -, -⟩ := hk
    refine ((inv_moreS r.length r).bnd (c' := 6) (Q' := fun ts k => 0 < ts.length ∧ (listT ts).length ≤ k) fun ts k r hk => ?_).weaken (by omega) (fun _ _ h => h)
    refine ((inv_must 93 r).bnd (c' := 6 + k) (Q' := fun ts k => 0 < ts.length ∧ (listT ts).length ≤ k) fun _ k2 r hk2 => ?_).weaken (by omega) (fun _ _ h => h)
    obtain rfl := hk2
    refine Inv.ok (k := 3 + k) ⟨by simp, ?_⟩ (by omega)
    cases ts with
    | nil => show 1 ≤ _; omega
    | cons s ts =>
      have e : (listT (t.text :: s :: ts)).length = (cms (s :: ts)).length + 3 := by simp [listT, cms]
      omega
theorem inv_word (tab : List Str) (l : List Tok) : Inv 0 (fun (i : Nat) k => k = 3 ∧ 0 < i ∧ i < tab.length) l (wordP tab l) := by
  intro a r h hn
  cases l with
  | nil => cases h
  | cons t q =>
    unfold wordP at h
    simp only at h
    split at h
    · rename_i hk
      cases h
      refine ⟨nums_tail hn, 3, ⟨rfl, hk.2, ?_⟩, by simp; omega⟩
      have := hk.2
      unfold idxW at this ⊢
      split at this <;> rename_i h1
      · rw [if_pos h1]; exact h1
      · omega
    · cases h
theorem idx_lt {tab : List Str} {s : Str} (h : 0 < idxW tab s) : idxW tab s < tab.length := by
  unfold idxW at h ⊢
  split at h <;> rename_i h1
  · rw [if_pos h1]; exact h1
  · omega
theorem inv_tags : ∀ (n k m p : Nat) (l : List Tok), m ≤ 3 → p ≤ 3 → Inv 0 (fun (x : Nat × Nat) j => j = 0 ∧ x.1 ≤ 3 ∧ x.2 ≤ 3) l (tagsP n k m p l)
  | 0, k, m, p, l, hm, hp => Inv.ok (k := 0) ⟨rfl, hm, hp⟩ (Nat.le_refl _)
  | n + 1, k, m, p, [], hm, hp => Inv.ok (k := 0) ⟨rfl, hm, hp⟩ (Nat.le_refl _)
  | n + 1, k, m, p, t :: q, hm, hp => by
    rw [tagsP]
    have step : ∀ m p, m ≤ 3 → p ≤ 3 → Inv 0 (fun (x : Nat × Nat) j => j = 0 ∧ x.1 ≤ 3 ∧ x.2 ≤ 3) (t :: q) (tagsP n k m p q) := by
      intro m p hm hp a r hx hn
      obtain ⟨h1, j, h2, h3⟩ := inv_tags n k m p q hm hp a r hx (nums_tail hn)
      exact ⟨h1, j, h2, by simp; omega⟩
    split
    · split
      · rename_i h; have := idx_lt h.1; have e : matTab.length = 4 := rfl
        exact step _ _ (by omega) hp
      · split
        · rename_i h; have := idx_lt h.1; have e : parTab.length = 4 := rfl
          exact step _ _ hm (by omega)
        · exact Inv.give _ _ _
    · exact Inv.ok (k := 0) ⟨rfl, hm, hp⟩ (Nat.le_refl _)
def QT (d : Nat) : Tst → Nat → Prop := fun t k => FormT t ∧ fitT d t = true ∧ (wT t).length ≤ k
def QTs (d : Nat) : List Tst → Nat → Prop := fun ts k => (∀ t ∈ ts, FormT t ∧ fitT d t = true) ∧ (ctms (ts.map wT)).length ≤ k
theorem inv_moreT {f : List Tok → PR Tst} {d : Nat} (hf : ∀ l, Inv 0 (QT d) l (f l)) : ∀ (n : Nat) (l : List Tok), Inv 0 (QTs d) l (moreT f n l)
  | 0, l => Inv.ok (k := 0) ⟨(fun t ht => by cases ht), Nat.le_refl _⟩ (Nat.le_refl _)
  | n + 1, l => by
    rw [moreT]
    cases he : eatP 44 l with
    | none => exact Inv.ok (k := 0) ⟨(fun t ht => by cases ht), Nat.le_refl _⟩ (Nat.le_refl _)
    | some q =>
      refine Inv.eat he ?_
      refine ((hf q).bnd (c' := 3) (Q' := QTs d) fun t k r hk => ?_).weaken (by omega) (fun _ _ h => h)
      refine ((inv_moreT hf n r).bnd (c' := 3 + k) (Q' := QTs d) fun ts k2 r hk2 => ?_).weaken (by omega) (fun _ _ h => h)
      refine Inv.ok (k := 1 + k + k2) ⟨fun x hx => ?_, ?_⟩ (by omega)
      · rcases List.mem_cons.1 hx with rfl | hx
        · exact ⟨hk.1, hk.2.1⟩
        · exact hk2.1 x hx
      · have e : ctms ((t :: ts).map wT) = M 44 :: (wT t ++ ctms (ts.map wT)) := by simp [ctms]
        have h1 := hk.2.2; have h2 := hk2.2
        rw [e, List.length_cons, List.length_append]; omega
theorem body_tags {k : Int} (h : k = 6 ∨ k = 7 ∨ k = 8) (m p : Int) (ns ks : List Str) (o : Bool) (l : Int) (sub : List (List Tok)) : (bodyT k m p ns ks o l sub).length ≤ 2 + (listT ns).length + (listT ks).length := by
  unfold bodyT
  rw [if_neg (by omega : ¬ k = 3), if_neg (by omega : ¬ (k = 4 ∨ k = 5))]
  split
  · rw [List.length_cons, List.length_append]; omega
  · rw [if_pos (by omega), List.length_cons, List.length_cons, List.length_append]; omega
theorem dfl_ok {n : Nat} (h : n ≤ 3) : 1 ≤ ((dfl n : Nat) : Int) ∧ ((dfl n : Nat) : Int) ≤ 3 := by unfold dfl; split <;> omega
/-- a test's word ahead: three tokens for one, less the word itself -/
theorem inv_testK {f : List Tok → PR Tst} {d : Nat} (hd : d ≤ 6) (hf : ∀ l, Inv 0 (QT (d + 1)) l (f l)) (i : Nat) (h0 : 0 < i) (h1 : i < 11) (r : List Tok) : Inv 3 (QT d) r (testK f i r) := by
  have fit : ∀ t : Tst, (∀ s ∈ t.tests, fitT (d + 1) s = true) → fitT d t = true := fun t h => by
    rw [fitT_eq, Bool.and_eq_true, decide_eq_true_eq, List.all_eq_true]; exact ⟨hd, h⟩
  unfold testK
  split
  · refine ((hf r).bnd (c' := 3) (Q' := QT d) fun t k q hk => ?_).weaken (by omega) (fun _ _ h => h)
    refine Inv.ok (k := 1 + k) ⟨FormT.mk' (by unfold Form1; simp) (fun s hs => by obtain rfl := List.mem_singleton.1 hs; exact hk.1), fit _ (fun s hs => by obtain rfl := List.mem_singleton.1 hs; exact hk.2.1), ?_⟩ (by omega)
    have h1 := hk.2.2
    rw [wT_eq]
    show (W _ :: bodyT 3 0 0 [] [] false 0 [wT t]).length ≤ _
    have e : bodyT 3 0 0 [] [] false 0 [wT t] = wT t := by simp [bodyT]
    rw [e, List.length_cons]; omega
  · split
    · rename_i hi
      refine ((inv_must 40 r).bnd (c' := 3) (Q' := QT d) fun _ k0 q hk0 => ?_).weaken (by omega) (fun _ _ h => h)
      obtain rfl := hk0
      refine ((hf q).bnd (c' := 6) (Q' := QT d) fun t k q hk => ?_).weaken (by omega) (fun _ _ h => h)
      refine ((inv_moreT hf q.length q).bnd (c' := 6 + k) (Q' := QT d) fun ts k2 q hk2 => ?_).weaken (by omega) (fun _ _ h => h)
      refine ((inv_must 41 q).bnd (c' := 6 + k + k2) (Q' := QT d) fun _ k3 q hk3 => ?_).weaken (by omega) (fun _ _ h => h)
      have h1 := hk.2.2; have h2 := hk2.2
      refine Inv.ok (k := 3 + k + k2) ⟨FormT.mk' (by unfold Form1; simp; omega) (fun s hs => ?_), fit _ (fun s hs => ?_), ?_⟩ (by omega)
      · rcases List.mem_cons.1 hs with rfl | hs
        · exact hk.1
        · exact (hk2.1 s hs).1
      · rcases List.mem_cons.1 hs with rfl | hs
        · exact hk.2.1
        · exact (hk2.1 s hs).2
      · rw [wT_eq]
        show (W _ :: bodyT i 0 0 [] [] false 0 ((t :: ts).map wT)).length ≤ _
        have e : bodyT i 0 0 [] [] false 0 ((t :: ts).map wT) = M 40 :: (wT t ++ (ctms (ts.map wT) ++ [M 41])) := by
          unfold bodyT; rw [if_neg (by omega), if_pos (by omega)]; simp [seqT, ctms]
        rw [e, List.length_cons, List.length_cons, List.length_append, List.length_append]
        show _ + (_ + 1) + 1 + 1 ≤ _
        omega
    · split
      · rename_i hi
        refine ((inv_tags r.length i 0 0 r (by omega) (by omega)).bnd (c' := 3) (Q' := QT d) fun mp k0 q hk0 => ?_).weaken (by omega) (fun _ _ h => h)
        obtain ⟨rfl, hm, hp⟩ := hk0
        refine ((inv_list q).bnd (c' := 3) (Q' := QT d) fun ns k q hk => ?_).weaken (by omega) (fun _ _ h => h)
        refine ((inv_list q).bnd (c' := 3 + k) (Q' := QT d) fun ks k2 q hk2 => ?_).weaken (by omega) (fun _ _ h => h)
        have hm' := dfl_ok hm; have hp' := dfl_ok hp
        refine Inv.ok (k := 3 + k + k2) ⟨FormT.mk' ?_ (fun s hs => by cases hs), fit _ (fun s hs => by cases hs), ?_⟩ (by omega)
        · show Form1 (i : Int) ((dfl mp.1 : Nat) : Int) (if i = 6 then (0 : Int) else ((dfl mp.2 : Nat) : Int)) ns.length ks.length false 0 0
          unfold Form1
          split
          · right; right; right; left
            exact ⟨by omega, hm', rfl, hk.1, hk2.1, rfl, rfl, rfl⟩
          · right; right; right; right; left
            exact ⟨by omega, hm', hp', hk.1, hk2.1, rfl, rfl, rfl⟩
        · rw [wT_eq]
          have h1 := hk.2; have h2 := hk2.2
          show (W _ :: bodyT (i : Int) ((dfl mp.1 : Nat) : Int) (if i = 6 then (0 : Int) else ((dfl mp.2 : Nat) : Int)) ns ks false 0 []).length ≤ _
          have := body_tags (k := (i : Int)) (by omega) ((dfl mp.1 : Nat) : Int) (if i = 6 then (0 : Int) else ((dfl mp.2 : Nat) : Int)) ns ks false 0 []
          rw [List.length_cons]; omega
      · split
        · refine ((inv_list r).bnd (c' := 3) (Q' := QT d) fun ns k q hk => ?_).weaken (by omega) (fun _ _ h => h)
          have h1 := hk.2
          refine Inv.ok (k := 1 + k) ⟨FormT.mk' (by unfold Form1; have := hk.1; simp; omega) (fun s hs => by cases hs), fit _ (fun s hs => by cases hs), ?_⟩ (by omega)
          rw [wT_eq]
          show (W _ :: listT ns).length ≤ _
          rw [List.length_cons]; omega
        · split
          · split
            · rename_i hi
              obtain ⟨t, q, rfl⟩ : ∃ t q, r = t :: q := by
                rcases hi with hi | hi <;> (obtain ⟨t, q, h, -, -⟩ := isP_cons hi; exact ⟨t, q, h⟩)
              intro a r' hx hn
              have hx' : bnd (nextP 3 q) (fun t' r' => .ok ((⟨10, 0, 0, [], [], isP 2 overW (t :: q), t'.num, []⟩ : Tst), r')) = .ok (a, r') := hx
              obtain ⟨h1, k, h2, h3⟩ := ((inv_next 3 q).bnd (c' := 0) (Q' := QT d) fun t' k q' hk => by
                obtain ⟨rfl, hk1, hk2⟩ := hk
                have := hk2 rfl
                exact Inv.ok (k := 3) ⟨FormT.mk' (by unfold Form1; simp; omega) (fun s hs => by cases hs), fit _ (fun s hs => by cases hs), by rw [wT_eq]; exact Nat.le_refl _⟩ (by omega)) a r' hx' (nums_tail hn)
              exact ⟨h1, k, h2, by simp; omega⟩
            · exact Inv.give _ _ _
          · refine Inv.ok (k := 1) ⟨FormT.mk' (by unfold Form1; simp; omega) (fun s hs => by cases hs), fit _ (fun s hs => by cases hs), ?_⟩ (by omega)
            rw [wT_eq]
            have e : bodyT i 0 0 [] [] false 0 [] = [] := by
              unfold bodyT; rw [if_neg (by omega), if_neg (by omega), if_neg (by omega), if_neg (by omega), if_neg (by omega), if_neg (by omega)]
            show (W _ :: bodyT i 0 0 [] [] false 0 []).length ≤ _
            rw [e]; exact Nat.le_refl _
theorem inv_test : ∀ (n d : Nat) (l : List Tok), Inv 0 (QT d) l (testP n d l)
  | 0, d, l => Inv.err _ _
  | n + 1, d, l => by
    rw [testP]
    split
    · exact Inv.err _ _
    · rename_i hd
      by_cases hl : l = []
      · subst hl; exact Inv.give _ _ _
      · have hd6 : d ≤ 6 := by
          rcases Nat.lt_or_ge 6 d with h | h
          · exact absurd ⟨h, hl⟩ hd
          · exact h
        refine ((inv_word tstTab l).bnd (c' := 0) (Q' := QT d) fun i k r hk => ?_).weaken (by omega) (fun _ _ h => h)
        obtain ⟨rfl, h0, h1⟩ := hk
        exact (inv_testK hd6 (inv_test n (d + 1)) i h0 h1 r).weaken (by omega) (fun _ _ h => h)
def QC (d : Nat) : Cmd → Nat → Prop := fun c k => FormC c ∧ fitC d c = true ∧ (wC c).length ≤ k
def QB (d : Nat) : Cmd → Nat → Prop := fun c k => c.kind = 2 ∧ FormC c ∧ fitC d c = true ∧ (wBr c).length ≤ k
def QCs (d : Nat) : List Cmd → Nat → Prop := fun cs k => (∀ c ∈ cs, FormC c ∧ fitC d c = true) ∧ (cs.flatMap wC).length ≤ k
theorem QCs.cons {d : Nat} {c : Cmd} {cs : List Cmd} {k k' : Nat} (h : QC d c k) (h' : QCs d cs k') : QCs d (c :: cs) (k + k') := by
  refine ⟨fun x hx => ?_, ?_⟩
  · rcases List.mem_cons.1 hx with rfl | hx
    · exact ⟨h.1, h.2.1⟩
    · exact h'.1 x hx
  · have h1 := h.2.2; have h2 := h'.2
    rw [List.flatMap_cons, List.length_append]; omega
theorem inv_cmds {f : List Tok → PR Cmd} {d : Nat} (hf : ∀ l, Inv 0 (QC d) l (f l)) : ∀ (n : Nat) (l : List Tok), Inv 0 (fun cs k => ∃ j, QCs d cs j ∧ k = j + 3) l (cmdsP f n l)
  | 0, l => Inv.err _ _
  | n + 1, l => by
    rw [cmdsP]
    cases he : eatP 125 l with
    | some q => exact Inv.eat he (Inv.ok (k := 3) ⟨0, ⟨(fun c hc => by cases hc), Nat.le_refl _⟩, rfl⟩ (Nat.le_refl _))
    | none =>
      refine ((hf l).bnd (c' := 0) (Q' := fun cs k => ∃ j, QCs d cs j ∧ k = j + 3) fun c k r hk => ?_).weaken (by omega) (fun _ _ h => h)
      refine ((inv_cmds hf n r).bnd (c' := k) (Q' := fun cs k => ∃ j, QCs d cs j ∧ k = j + 3) fun cs k2 r hk2 => ?_).weaken (by omega) (fun _ _ h => h)
      obtain ⟨j, hj, rfl⟩ := hk2
      exact Inv.ok (k := k + j + 3) ⟨k + j, QCs.cons hk hj, rfl⟩ (by omega)
theorem inv_block {f : List Tok → PR Cmd} {d : Nat} (hf : ∀ l, Inv 0 (QC d) l (f l)) (l : List Tok) : Inv 0 (fun cs k => ∃ j, QCs d cs j ∧ k = j + 6) l (blockP f l) := by
  refine ((inv_must 123 l).bnd (c' := 0) (Q' := fun cs k => ∃ j, QCs d cs j ∧ k = j + 6) fun _ k r hk => ?_).weaken (by omega) (fun _ _ h => h)
  obtain rfl := hk
  intro a r' hx hn
  obtain ⟨h1, k, ⟨j, h2, rfl⟩, h3⟩ := inv_cmds hf _ r a r' hx hn
  exact ⟨h1, j + 6, ⟨j, h2, rfl⟩, by omega⟩
theorem wBr_len (c : Cmd) (h : c.kind = 2) : (wBr c).length + 1 = (wC c).length := by rw [wC_if h]; rfl
theorem inv_elseK {f b : List Tok → PR Cmd} {d : Nat} (hd : d ≤ 6) {t : Tst} {th : List Cmd} {k : Nat} (hf : ∀ l, Inv 0 (QC (d + 1)) l (f l)) (hb : ∀ l, Inv 0 (QB d) l (b l)) (hT : FormT t ∧ fitT 1 t = true) (hth : QCs (d + 1) th k) (r : List Tok) : Inv ((wT t).length + k + 2) (QB d) r (elseK f b t th r) := by
  have hth2 : th.all (fitC (d + 1)) = true := List.all_eq_true.2 fun c hc => (hth.1 c hc).2
  have hthl := hth.2
  have form : ∀ el : List Cmd, (∀ c ∈ el, FormC c) → FormC ⟨2, [], t, th, el⟩ := fun el h => (FormC.iff _).2 ⟨by unfold Form2; simp, .inl ⟨rfl, hT.1, fun c hc => (hth.1 c hc).1, h⟩⟩
  have fit : ∀ el : List Cmd, (if isElsif el = true then el.all (fitC d) else el.all (fitC (d + 1))) = true → fitC d ⟨2, [], t, th, el⟩ = true := fun el h => by
    rw [fitC_eq, Bool.and_eq_true, decide_eq_true_eq]
    exact ⟨hd, by rw [if_pos rfl, Bool.and_eq_true, Bool.and_eq_true]; exact ⟨⟨hT.2, hth2⟩, h⟩⟩
  have len : ∀ el : List Cmd, (wBr ⟨2, [], t, th, el⟩).length = (wT t).length + (th.flatMap wC).length + 2 + (elseT el (el.flatMap wC) (el.map wBr)).length := fun el => by
    rw [wBr_eq]
    show (wT t ++ (blkT (th.flatMap wC) ++ elseT el (el.flatMap wC) (el.map wBr))).length = _
    unfold blkT
    rw [List.length_append, List.length_append]
    rw [List.length_cons, List.length_append]; show _ + (_ + 1 + 1 + _) = _; omega
  unfold elseK
  split
  · rename_i hi
    obtain ⟨t0, q, rfl, -, -⟩ := isP_cons hi
    intro a r' hx hn
    obtain ⟨h1, j, h2, h3⟩ := ((hb q).bnd (c' := 3 + (wT t).length + k + 2) (Q' := QB d) fun c j q hc => by
      obtain ⟨hc2, hcF, hcd, hcl⟩ := hc
      have he : isElsif [c] = true := by simp [isElsif, hc2]
      refine Inv.ok (k := (wT t).length + k + 2 + (1 + j)) ⟨rfl, form _ (fun x hx => by obtain rfl := List.mem_singleton.1 hx; exact hcF), fit _ (by rw [if_pos he]; simpa using hcd), ?_⟩ (by omega)
      rw [len]
      have e : elseT [c] ([c].flatMap wC) ([c].map wBr) = W elsifW :: wBr c := by unfold elseT; rw [if_pos he]; simp
      rw [e, List.length_cons]; omega) a r' hx (nums_tail hn)
    exact ⟨h1, j, h2, by simp; omega⟩
  · split
    · rename_i hi
      obtain ⟨t0, q, rfl, -, -⟩ := isP_cons hi
      intro a r' hx hn
      obtain ⟨h1, j, h2, h3⟩ := ((inv_block hf q).bnd (c' := 3 + (wT t).length + k + 2) (Q' := QB d) fun el j q hel => by
        obtain ⟨j, hel, rfl⟩ := hel
        refine Inv.ok (k := (wT t).length + k + 2 + (j + 3)) ⟨rfl, form _ (fun x hx => (hel.1 x hx).1), fit _ ?_, ?_⟩ (by omega)
        · split
          · exact List.all_eq_true.2 fun c hc => fitC_mono c d (hel.1 c hc).2
          · exact List.all_eq_true.2 fun c hc => (hel.1 c hc).2
        · rw [len]
          have hl := hel.2
          have : (elseT el (el.flatMap wC) (el.map wBr)).length ≤ (el.flatMap wC).length + 3 := by
            unfold elseT
            split
            · rename_i he
              obtain ⟨c, rfl, hc2⟩ := isElsif_cons he
              have := wBr_len c hc2
              simp; omega
            · split
              · simp
              · unfold blkT; simp
          omega) a r' hx (nums_tail hn)
      exact ⟨h1, j, h2, by simp; omega⟩
    · refine Inv.ok (k := (wT t).length + k + 2) ⟨rfl, form [] (fun _ hx => by cases hx), fit [] rfl, ?_⟩ (Nat.le_refl _)
      rw [len]
      show _ + _ + 2 + 0 ≤ _
      omega
theorem inv_both : ∀ (n d : Nat) (l : List Tok), Inv 0 (QC d) l (commandP n d l) ∧ (d ≤ 6 → Inv 0 (QB d) l (branchP n d l))
  | 0, d, l => ⟨Inv.err _ _, fun _ => Inv.err _ _⟩
  | n + 1, d, l => by
    have ihc := fun d l => (inv_both n d l).1
    have ihb := fun d (h : d ≤ 6) l => (inv_both n d l).2 h
    refine ⟨?_, fun hd => ?_⟩
    · rw [commandP]
      split
      · exact Inv.err _ _
      · rename_i hd
        by_cases hl : l = []
        · subst hl; exact Inv.give _ _ _
        · have hd6 : d ≤ 6 := by
            rcases Nat.lt_or_ge 6 d with h | h
            · exact absurd ⟨h, hl⟩ hd
            · exact h
          have fit : ∀ (k : Nat) (tx : List Str), k ≠ 2 → fitC d ⟨k, tx, T0, [], []⟩ = true := fun k tx hk => by
            rw [fitC_eq, Bool.and_eq_true, decide_eq_true_eq]; exact ⟨hd6, by rw [if_neg (by show ¬ (k : Int) = 2; omega)]⟩
          refine ((inv_word cmdTab l).bnd (c' := 0) (Q' := QC d) fun i k r hk => ?_).weaken (by omega) (fun _ _ h => h)
          obtain ⟨rfl, h0, h1⟩ := hk
          have h1' : i < 11 := h1
          unfold cmdK
          split
          · intro a r' hx hn
            obtain ⟨q1, j, ⟨q2, q3, q4, q5⟩, q6⟩ := ihb d hd6 r a r' hx hn
            exact ⟨q1, j + 1, ⟨q3, q4, by have := wBr_len a q2; omega⟩, by omega⟩
          · split
            · refine ((inv_list r).bnd (c' := 3) (Q' := QC d) fun ts k q hk => ?_).weaken (by omega) (fun _ _ h => h)
              refine ((inv_must 59 q).bnd (c' := 3 + k) (Q' := QC d) fun _ k2 q hk2 => ?_).weaken (by omega) (fun _ _ h => h)
              have e1 := hk.1; have e2 := hk.2
              refine Inv.ok (k := 2 + k) ⟨(FormC.iff _).2 ⟨by unfold Form2; simp; omega, .inr ⟨by show (i : Int) ≠ 2; omega, rfl, rfl, rfl⟩⟩, fit i ts (by omega), ?_⟩ (by omega)
              rw [wC_else (by show (i : Int) ≠ 2; omega)]
              show (W _ :: ((if ts = [] then [] else listT ts) ++ [M 59])).length ≤ _
              rw [if_neg (by intro e; rw [e] at e1; simp at e1), List.length_cons, List.length_append]
              show _ + 1 + 1 ≤ _; omega
            · split
              · refine ((inv_next 4 r).bnd (c' := 3) (Q' := QC d) fun t k q hk => ?_).weaken (by omega) (fun _ _ h => h)
                obtain ⟨rfl, -, -⟩ := hk
                refine ((inv_must 59 q).bnd (c' := 6) (Q' := QC d) fun _ k2 q hk2 => ?_).weaken (by omega) (fun _ _ h => h)
                refine Inv.ok (k := 3) ⟨(FormC.iff _).2 ⟨by unfold Form2; simp; omega, .inr ⟨by show (i : Int) ≠ 2; omega, rfl, rfl, rfl⟩⟩, fit i _ (by omega), ?_⟩ (by omega)
                rw [wC_else (by show (i : Int) ≠ 2; omega)]
                exact Nat.le_refl _
              · refine ((inv_must 59 r).bnd (c' := 3) (Q' := QC d) fun _ k2 q hk2 => ?_).weaken (by omega) (fun _ _ h => h)
                refine Inv.ok (k := 2) ⟨(FormC.iff _).2 ⟨by unfold Form2; simp; omega, .inr ⟨by show (i : Int) ≠ 2; omega, rfl, rfl, rfl⟩⟩, fit i _ (by omega), ?_⟩ (by omega)
                rw [wC_else (by show (i : Int) ≠ 2; omega)]
                exact Nat.le_refl _
    · rw [branchP]
      refine ((inv_test (l.length + 1) 1 l).bnd (c' := 0) (Q' := QB d) fun t k r hk => ?_).weaken (by omega) (fun _ _ h => h)
      refine ((inv_block (ihc (d + 1)) r).bnd (c' := k) (Q' := QB d) fun th k2 q hk2 => ?_).weaken (by omega) (fun _ _ h => h)
      obtain ⟨j, hj, rfl⟩ := hk2
      have e2 := hk.2.2
      exact (inv_elseK hd (ihc (d + 1)) (ihb d hd) ⟨hk.1, hk.2.1⟩ hj q).weaken (by omega) (fun _ _ h => h)
theorem inv_all : ∀ (n : Nat) (l : List Tok), Inv 0 (QCs 0) l (allP n l)
  | 0, l => Inv.err _ _
  | n + 1, l => by
    rw [allP]
    split
    · rename_i h; subst h
      exact Inv.ok (k := 0) ⟨(fun c hc => by cases hc), Nat.le_refl _⟩ (Nat.le_refl _)
    · refine (((inv_both (l.length + 1) 0 l).1).bnd (c' := 0) (Q' := QCs 0) fun c k r hk => ?_).weaken (by omega) (fun _ _ h => h)
      refine ((inv_all n r).bnd (c' := k) (Q' := QCs 0) fun cs k2 r hk2 => ?_).weaken (by omega) (fun _ _ h => h)
      exact Inv.ok (k := k + k2) (QCs.cons hk hk2) (by omega)
/-- what is parsed has its form -/
theorem parse_form {l : List Tok} (hn : Nums l) : ((parseS l).2.2 ≠ 0 ∧ (parseS l).1 = [] ∧ (parseS l).2.1 ≤ l.length) ∨
    ∃ cs, parseS l = (cs, 0, 0) ∧ (∀ c ∈ cs, FormC c) ∧ cs.all (fitC 0) = true ∧ (cs.flatMap wC).length ≤ 3 * l.length := by
  unfold parseS
  have hl := less_all (l.length + 1) l
  have hi := inv_all (l.length + 1) l
  cases h : allP (l.length + 1) l with
  | error p => rw [h] at hl; exact .inl ⟨hl.2, rfl, Nat.sub_le _ _⟩
  | ok p =>
    obtain ⟨cs, r⟩ := p
    obtain ⟨-, k, ⟨h1, h2⟩, h3⟩ := hi cs r h hn
    exact .inr ⟨cs, rfl, fun c hc => (h1 c hc).1, List.all_eq_true.2 fun c hc => (h1 c hc).2, by omega⟩
end Go.Proofs.YtlgbmnmoobpkkaaDoor.Sc
namespace Go.Proofs.YtlgbmnmoobpkkaaDoor.Sc
open Go Go.Joins Go.Deep Go.ChangeShapes Go.WideShapes Go.RowKit
open Tk (Tok)

theorem pick_list {α : Type} {Q : Nat → α → Prop} : ∀ k : Nat, (∀ i, i < k → ∃ x, Q i x) → ∃ l : List α, l.length = k ∧ ∀ i x, l[i]? = some x → Q i x
  | 0, _ => ⟨[], rfl, fun i x h => by simp at h⟩
  | k + 1, h => by
    obtain ⟨l, hl, hr⟩ := pick_list k fun i hi => h i (by omega)
    obtain ⟨s, hs⟩ := h k (by omega)
    refine ⟨l ++ [s], by rw [List.length_append, hl]; rfl, fun i x hx => ?_⟩
    rcases Nat.lt_or_ge i k with h0 | h0
    · rw [List.getElem?_append_left (by omega)] at hx
      exact hr i x hx
    · have hik : i = k := by have := (List.getElem?_eq_some_iff.1 hx).1; rw [List.length_append, hl] at this; simp at this; omega
      subst hik
      rw [List.getElem?_append_right (by omega), hl, Nat.sub_self] at hx
      obtain rfl : s = x := Option.some.inj hx
      exact hs
section
variable {H : Type} {enc : TypeId × Value → H} {w : World} {base : Nat} {spare : Nat → Bool} {held : Bool}
theorem weights_all' {P : Program} {e : TypeId} : ∀ {l : List (DataW H)} {d : DataW H}, d ∈ l → ∀ n ∈ d.weights P e, n ∈ DataW.weightsAll P e l
  | a :: l, d, hd, n, hn => by
    rw [DataW.weightsAll, List.mem_append]
    rcases List.mem_cons.1 hd with rfl | hd
    · exact .inl hn
    · exact .inr (weights_all' hd n hn)
theorem tok_int {n : Nat} {v : Value} {y : DataW H × List MemPlace} (h : DataW.trod enc Tryd.prog w base spare held n 3 [v] = some y) : ∃ z : Int, v = .int .i64 z := by
  obtain ⟨z, hz, _, hw⟩ := DataW.trod_int Tryd.underlying3 h
  exact ⟨z, by simpa using hz⟩
set_option maxRecDepth 20000 in
theorem tok_cells {fuel : Nat} {cs : List Value} {x : DataW H × List MemPlace} (h : DataW.trod enc Tryd.prog w base spare held fuel 35 cs = some x) (hw : ∀ n ∈ x.1.weights Tryd.prog 35, n ≤ reachBytes) : ∃ t : Tok, cs = tokC t ∧ t.text.length ≤ 140737488351232 := by
  have ci : Tryd.prog.cellsOf 3 = 1 := by kernel_rfl
  have cs' : Tryd.prog.cellsOf 9 = 1 := by kernel_rfl
  have ck : Tryd.prog.cellsOf 35 = 3 := by kernel_rfl
  obtain ⟨xs, n, hn, rfl, hcl, hxl, hf⟩ := DataW.trod_struct Tryd.underlying35 h
  rw [ck] at hcl
  match cs, hcl with
  | [v0, v1, v2], _ =>
    have hx3 : xs.length = 3 := hxl
    match xs, hx3 with
    | [y0, y1, y2], _ =>
      have h0 : DataW.trod enc Tryd.prog w base spare held n 3 (([v0, v1, v2].drop 0).take (Tryd.prog.cellsOf 3)) = some y0 := hf 0 _ rfl
      rw [ci] at h0
      have h1 : DataW.trod enc Tryd.prog w base spare held n 9 (([v0, v1, v2].drop 1).take (Tryd.prog.cellsOf 9)) = some y1 := hf 1 _ rfl
      rw [cs'] at h1
      have h2 : DataW.trod enc Tryd.prog w base spare held n 3 (([v0, v1, v2].drop 2).take (Tryd.prog.cellsOf 3)) = some y2 := hf 2 _ rfl
      rw [ci] at h2
      obtain ⟨z0, rfl⟩ := tok_int (v := v0) (y := y0) h0
      obtain ⟨s1, e1, f1, -⟩ := DataW.trod_string Tryd.underlying9 h1
      obtain ⟨z2, rfl⟩ := tok_int (v := v2) (y := y2) h2
      have e1' : v1 = .string s1 := by simpa using e1
      subst e1'
      have w1 : s1.data.toList.length ≤ reachBytes := by
        refine hw _ ?_
        simp only [DataW.weights, Tryd.underlying35]
        refine DataW.weights_mem_each (j := 1) rfl rfl _ ?_
        rw [f1]
        simp only [DataW.weights]
        exact List.mem_cons_self ..
      have hrb : reachBytes = 140737488351232 := rfl
      refine ⟨⟨z0, s1.data.toList, z2⟩, ?_, ?_⟩
      · show _ = [_, Value.string ⟨s1.data.toList.toArray⟩, _]
        rw [Lib.mk_data]
      · exact hrb ▸ w1
set_option maxRecDepth 20000 in
theorem toks_open {a : Option Addr} {len cap : Nat} {d : DataW H} {p : List MemPlace} {ts : List TypeId} {ds : List (DataW H)} {j : Nat} (hsz : (DataW.weightsEach Tryd.prog ts ds).all (· ≤ reachBytes) = true) (htj : ts[j]? = some 25) (hdj : ds[j]? = some d) (h : DataW.Trod enc Tryd.prog w base spare held 25 (.slice a len cap) d p) :
    ∃ l : List Tok, SAt cTok w (fun _ => True) (.slice a len cap) l ∧ (∀ t ∈ l, t.text.length ≤ 140737488351232) ∧ l.length * 32 ≤ 140737488351232 := by
  have ck : Tryd.prog.cellsOf 35 = 3 := by kernel_rfl
  have hbytes : Tryd.prog.bytesOf 35 = 32 := by kernel_rfl
  obtain ⟨fuel, hf⟩ := h
  rcases DataW.trod_slice Tryd.underlying25 hf with ⟨hcs, -⟩ | ⟨x, l, c, elems, rest, n, hn, hcs, hdp, hb, hl, hm, hlen, hel, -, -⟩
  · simp [Value.cells] at hcs
    obtain ⟨rfl, rfl, rfl⟩ := hcs
    exact ⟨[], SAt.nil _ _ _, (fun t ht => by cases ht), Nat.zero_le _⟩
  · simp [Value.cells] at hcs
    obtain ⟨rfl, rfl, rfl⟩ := hcs
    obtain rfl : d = _ := (Prod.mk.inj hdp).1
    rw [ck] at hel
    have hw := fun n hn => by simpa using List.all_eq_true.1 hsz n (DataW.weights_mem_each htj hdj n hn)
    have hwl : len * 32 ≤ reachBytes := by
      have := hw ((elems.length + rest.length) * 32) (by simp only [DataW.weights, Tryd.underlying25, List.length_map, hbytes]; exact List.mem_cons_self ..)
      rw [hlen] at this
      exact Nat.le_trans (Nat.mul_le_mul_right _ (Nat.le_add_right _ _)) this
    have key : ∀ i, i < len → ∃ cs', w.cells? base (x.add (i * 3)) 3 = some cs' ∧ ∃ t : Tok, cs' = tokC t ∧ t.text.length ≤ 140737488351232 := by
      intro i hi
      have h1 := hel i hi
      rw [List.getElem?_eq_getElem (by omega : i < elems.length)] at h1
      obtain ⟨cs', hc, ht⟩ := Option.bind_eq_some_iff.1 h1
      refine ⟨cs', hc, tok_cells ht fun m hm => hw m ?_⟩
      simp only [DataW.weights, Tryd.underlying25]
      exact List.mem_cons_of_mem _ (List.mem_append_left _ (weights_all' (List.mem_map_of_mem (List.getElem_mem (by omega : i < elems.length))) m hm))
    obtain ⟨l, hll, hr⟩ := pick_list (Q := fun i (t : Tok) => ∃ cs', w.cells? base (x.add (i * 3)) 3 = some cs' ∧ cs' = tokC t ∧ t.text.length ≤ 140737488351232) len fun i hi => by
      obtain ⟨cs', hc, t, h1, h2⟩ := key i hi
      exact ⟨t, cs', hc, h1, h2⟩
    refine ⟨l, ⟨some x, cap, by rw [hll], by rw [hll]; exact hl, fun i s hi => ?_⟩, fun t ht => ?_, by rw [hll]; have h2 : reachBytes = 140737488351232 := rfl; omega⟩
    · have hil : i < len := by have := (List.getElem?_eq_some_iff.1 hi).1; omega
      obtain ⟨cs', hc, rfl, -⟩ := hr i s hi
      obtain ⟨_, hcl, hcat⟩ := World.cells?_some hc
      obtain ⟨b, off, spot⟩ := x
      have hspot : spot = none := by
        obtain ⟨cs0, hc0, -⟩ := key 0 (by omega)
        obtain ⟨_, hcl0, hcat0⟩ := World.cells?_some hc0
        have q0 := hcat0 0 (by omega)
        rw [List.getElem?_eq_getElem (by omega : 0 < cs0.length)] at q0
        simpa [Addr.add] using World.cell?_spot q0
      subst hspot
      have q : ∀ j, j < 3 → w.cell? ⟨b, off + i * 3 + j, none⟩ = (tokC s)[j]? := by
        intro j hj
        have := hcat j hj
        rwa [Addr.add_lit, Addr.add_lit] at this
      refine ⟨b, off, rfl, trivial, ?_, tokC s, rfl, fun j u hu => ?_⟩
      · have := q 0 (by omega)
        exact World.block_lt_of_cell? w ⟨b, off + i * 3 + 0, none⟩ this
      · have hj : j < 3 := (List.getElem?_eq_some_iff.1 hu).1
        exact (q j hj).trans hu
    · obtain ⟨i, hi⟩ := List.getElem?_of_mem ht
      obtain ⟨-, -, -, h2⟩ := hr i t hi
      exact h2
end
end Go.Proofs.YtlgbmnmoobpkkaaDoor.Sc
namespace Go.Proofs.YtlgbmnmoobpkkaaDoor.Sc
open Go.RowKit
open Tk (Tok)

theorem below_gn {w w' : World} (h : w.grownBy w' (Value.slice none 0 0).ownBlock) : Below w.heap.size w w' := ⟨h.os, h.tape, h.output, h.size, fun k hk => h.block k hk (by simp [Value.ownBlock])⟩
theorem check_fix {cs : List Cmd} (h : cs.all (fitC 0) = true) : checkS cs = 0 ∨ checkS cs = 5 := by
  unfold checkS
  rw [if_pos h]
  split
  · exact .inr rfl
  · exact .inl rfl
theorem odd_says : wholeS [M 125] = ([], 0, 3) := by kernel_rfl
theorem chk_some : ∀ {l : List Tok} {j i : Nat} {c : Int}, chkS j l = some (i, c) → c ≠ 0 ∧ i ≤ j + l.length
  | [], _, _, _, h => by cases h
  | t :: l, j, i, c, h => by
    rw [chkS] at h
    by_cases h0 : Tk.checkT t = 0
    · rw [if_pos h0] at h
      obtain ⟨h1, h2⟩ := chk_some h
      exact ⟨h1, by rw [List.length_cons]; omega⟩
    · rw [if_neg h0] at h
      cases h
      exact ⟨h0, Nat.le_add_right _ _⟩
theorem chk_none : ∀ {l : List Tok} {j : Nat}, chkS j l = none → ∀ t ∈ l, Tk.checkT t = 0
  | [], _, _ => fun t ht => by cases ht
  | t :: l, j, h => by
    rw [chkS] at h
    by_cases h0 : Tk.checkT t = 0
    · rw [if_pos h0] at h
      intro s hs
      rcases List.mem_cons.1 hs with rfl | hs
      · exact h0
      · exact chk_none h s hs
    · rw [if_neg h0] at h; cases h
theorem nums_chk {l : List Tok} (h : ∀ t ∈ l, Tk.checkT t = 0) : Nums l := fun t ht hk => by
  have h1 := h t ht
  unfold Tk.checkT at h1
  rw [if_pos hk] at h1
  by_cases h2 : t.num < 0 ∨ 2147483647 < t.num
  · rw [if_pos h2] at h1; exact absurd h1 (by decide)
  · omega
def FixP (l : List Tok) : Prop := ((wholeS l).2.2 ≠ 0 ∧ (wholeS l).1 = [] ∧ (wholeS l).2.1 ≤ l.length) ∨
    ∃ cs, wholeS l = (cs, 0, 0) ∧ (∀ c ∈ cs, FormC c) ∧ cs.all (fitC 0) = true ∧ (cs.flatMap wC).length ≤ 1200
theorem fix_cases (l : List Tok) : FixP l := by
  unfold FixP wholeS
  by_cases hn : 400 < l.length
  · rw [if_pos hn]; exact .inl ⟨by decide, rfl, Nat.zero_le _⟩
  · rw [if_neg hn]
    cases h : chkS 0 l with
    | some p =>
      obtain ⟨i, c⟩ := p
      obtain ⟨h1, h2⟩ := chk_some h
      exact .inl ⟨h1, rfl, by simpa using h2⟩
    | none =>
      rcases parse_form (nums_chk (chk_none h)) with h1 | ⟨cs, h1, h2, h3, h4⟩
      · exact .inl h1
      · exact .inr ⟨cs, h1, h2, h3, by omega⟩
theorem ixt0 : ([.int .i64 5, .string ⟨#[125]⟩, .int .i64 0] : List Value) = tokC (M 125) := rfl
theorem odd_at (w : World) : SAt cTok (w.alloc (.cells #[.int .i64 5, .string ⟨#[125]⟩, .int .i64 0] 35)) (fun b => b < w.heap.size + 1) (.slice (some ⟨w.heap.size, 0, none⟩) 1 1) [M 125] := by
  have hh := Has.alloc w [.int .i64 5, .string ⟨#[125]⟩, .int .i64 0] 35
  refine ⟨_, 1, rfl, Nat.le_refl _, fun i x hi => ?_⟩
  match i, hi with
  | 0, hi =>
    obtain rfl : M 125 = x := Option.some.inj hi
    refine ⟨w.heap.size, 0, rfl, Nat.lt_succ_self _, hh.2.2, tokC (M 125), rfl, fun j u hj => ?_⟩
    have := hh.1 j u hj
    simpa using this
  | i + 1, hi => exact absurd hi (by simp)

set_option maxHeartbeats 8000000 in
set_option maxRecDepth 20000 in
theorem scriptFixed_any (l : List Tok) (v : Value) (F : Dom) (w : World) (hv : SAt cTok w F v l) (htx : ∀ t ∈ l, t.text.length ≤ 140737488351232) (hlen : l.length * 32 ≤ 140737488351232) (htab : Tabs w w.heap.size) :
    Calls Tryd.prog 4 #[v] w fun e w' => e = .returned (.bool true) ∧ Below w.heap.size w w' := by
  have HTB : Hid (∀ w', Below w.heap.size w w' → Tabs w' w'.heap.size) := fun w' hb => (htab.down (Nat.le_refl _) hb).up hb.size
  obtain ⟨G0, c0, rfl, -⟩ := hv.form
  have HV := Lib.hid hv
  have HP1 : Hid (∀ (c : Nat) (b : Nat) (w' : World), SAt cTok w' (fun b => b < w'.heap.size) (.slice (some ⟨b, 0, none⟩) 1 c) [M 125] → Below w.heap.size w w' → Calls Tryd.prog 8 #[.slice (some ⟨b, 0, none⟩) 1 c] w' (ParseP [M 125] w')) := fun c b w' h1 h2 =>
    parse_any [M 125] _ _ w' h1 (fun _ h => h) (HTB.out _ h2) (fun t ht hk => by rw [List.mem_singleton] at ht; subst ht; rcases hk with hk | hk <;> exact absurd hk (by decide))
  have HPA : Hid (∀ (u : Value) (w' : World), SAt cTok w' (fun b => b < w'.heap.size) u l → Below w.heap.size w w' → Calls Tryd.prog 8 #[u] w' (ParseP l w')) := fun u w' h1 h2 =>
    parse_any l u _ w' h1 (fun _ h => h) (HTB.out _ h2) (fun t ht _ => by have := htx t ht; omega)
  have HFX := Lib.hid (fix_cases l)
  have HA0 := Lib.hid (odd_at w)
  have HB0 := Lib.hid (ba (Below.refl w.heap.size w) (.cells #[.int .i64 5, .string ⟨#[125]⟩, .int .i64 0] 35))
  obtain ⟨i0, hi, hz0, hz1, hz2⟩ := info_three info_tok
  have HI := Lib.hid hi; have HZ0 := Lib.hid hz0; have HZ1 := Lib.hid hz1; have HZ2 := Lib.hid hz2
  have HL := Lib.hid hlen
  have HSH : Hid (∀ (cs : List Cmd) (K : Nat) (u : Value) (w' : World), SAt (cCmd K) w' (fun b => b < w'.heap.size) u cs → (∀ c ∈ cs, FormC c) → (cs.flatMap wC).length ≤ 1200 → Below w.heap.size w w' → Calls Tryd.prog 7 #[u] w' (ShowPost cs w')) := fun cs K u w' h1 h2 h3 h4 =>
    show_any K cs u _ w' h1 h2 (fun _ h => h) (HTB.out _ h4) (by omega)
  have HP3 : Hid (∀ (ts : List Tok) (u : Value) (w' : World), SAt cTok w' (fun b => b < w'.heap.size) u ts → OkL ts → Below w.heap.size w w' → Calls Tryd.prog 8 #[u] w' (ParseP ts w')) := fun ts u w' h1 h2 h3 =>
    parse_any ts u _ w' h1 (fun _ h => h) (HTB.out _ h3) h2.short
  clear hi hz0 hz1 hz2 hv htx htab hlen
  have HCP : Hid ((G0 = none ∧ l = []) ∨ ∃ x, G0 = some x ∧ ∀ w', Below w.heap.size w w' → ∀ j u, (l.flatMap tokC)[j]? = some u → w'.cell? (x.add j) = some u) := by
    cases G0 with
    | none =>
      refine .inl ⟨rfl, ?_⟩
      cases l with
      | nil => rfl
      | cons t r => obtain ⟨_, _, _, h, _⟩ := HV.out.get 0 (Nat.succ_pos _); cases h
    | some x => exact .inr ⟨x, rfl, fun w' hb => (HV.out.down hb).cells⟩
  have hcl : (l.flatMap tokC).length = l.length * 3 := by
    have := hcells_length (k := 3) (ps := l.map fun x => (x, tokC x)) (fun p hp => by obtain ⟨x, _, rfl⟩ := List.mem_map.1 hp; rfl)
    unfold hcells at this
    rwa [List.flatMap_map, List.length_map] at this
  have HCL := Lib.hid hcl
  clear hcl HV
  rcases HCP.out with ⟨rfl, rfl⟩ | ⟨x, rfl, hcells⟩
  · clear HCP
    go_enter Tryd.func4, Tryd.ntmps4
    go_wp2_with fail
    refine (HP1.out 1 w.heap.size _ (HA0.out.mono (fun b hb => by rw [World.size_alloc]; exact hb)) HB0.out).mono ?_
    intro e w1 h1
    obtain ⟨v1, rfl, -, hb1⟩ := h1
    rw [odd_says]
    have HB1 := Lib.hid (bt HB0.out hb1)
    clear hb1 HA0 HB0 HP1
    go_wp2_with fail
    have HB2 := HB1
    have HS2 : Hid (SAt cTok w1 (fun b => b < w1.heap.size) (.slice none 0 0) []) := SAt.nil _ _ _
    refine (HPA.out _ _ HS2.out HB2.out).mono ?_
    intro e w4 h4
    obtain ⟨v4, rfl, hs4, hb4⟩ := h4
    have HB4 := Lib.hid (bt HB2.out hb4)
    have HS4 := Lib.hid ((SAt.bd (fun _ _ hr => cmd_bd _ hr) hs4).mono (F' := fun b => b < w4.heap.size) (fun _ h => h.2))
    clear hs4 hb4 HS2
    rcases HFX.out with ⟨hz, hnil, hple⟩ | ⟨cs, hw, hF1, hf1, hl1⟩
    · exact absurd (show (wholeS []).2.2 = 0 by kernel_rfl) hz
    · have hs4 := HS4.out
      rw [hw] at hs4 ⊢
      clear HS4 HFX hw
      obtain ⟨G4, c4, rfl, -⟩ := hs4.form
      have HS4 := Lib.hid hs4
      have HC := Lib.hid (HSH.out cs _ _ w4 hs4 hF1 hl1 HB4.out)
      have HF1 := Lib.hid hF1; have HL1 := Lib.hid hl1; have HF2 := Lib.hid hf1
      clear hs4 hF1 hl1 hf1 HSH
      go_wp2_with fail
      refine HC.out.mono ?_
      intro e w5 h5
      obtain ⟨h51, h50, hb5⟩ := h5
      have HB5 := Lib.hid (bt HB4.out hb5)
      have HS5 := Lib.hid (HS4.out.stable (Same.of_below hb5) hb5.size)
      clear HC HS4 hb5
      rcases check_fix HF2.out with h0 | h0
      · obtain ⟨v5, rfl, hr5⟩ := h50 h0
        obtain ⟨G5, c5, rfl⟩ := row_slice hr5
        have hk : (cs.flatMap wC).length ≤ 400 := by
          unfold checkS at h0
          rw [if_pos HF2.out] at h0
          by_cases hh : 400 < (cs.flatMap wC).length
          · rw [if_pos hh] at h0; exact absurd h0 (by decide)
          · omega
        have hs5 : SAt cTok w5 (fun _ => True) (.slice G5 (cs.flatMap wC).length c5) (cs.flatMap wC) := SAt.of_row (f := tokC) (hf := fun _ => rfl) hr5 (fun _ _ => trivial)
        have hs6 : SAt cTok w5 (fun b => b < w5.heap.size) (.slice G5 (cs.flatMap wC).length c5) (cs.flatMap wC) := (SAt.bd (fun _ _ hr => hr) hs5).mono (fun _ hb => hb.2)
        have HWB := Lib.hid (whole_back HF1.out HF2.out hk)
        have HP := Lib.hid (HP3.out _ _ w5 hs6 (ok_all HF1.out) HB5.out)
        obtain ⟨ts, hts⟩ : ∃ ts, ts = cs.flatMap wC := ⟨_, rfl⟩
        have HL2 : Hid ((cs.flatMap wC).length ≤ 1000000) := by unfold Hid; omega
        rw [← hts] at HP HWB hk ⊢
        clear h50 h51 h0 hs5 hs6 hr5 hts HP3 HL1
        go_wp2_with fail
        refine HP.out.mono ?_
        intro e w6 h6
        obtain ⟨v6, rfl, hs6, hb6⟩ := h6
        rw [HWB.out] at hs6 ⊢
        have HB6 := Lib.hid (bt HB5.out hb6)
        obtain ⟨G6, c6, rfl, -⟩ := hs6.form
        have HCM := Lib.hid (sameC_every _ cs _ _ _ _ _ w6 (HS5.out.stable (Same.of_below hb6) hb6.size) hs6 HF1.out HL2.out)
        clear hs6 hb6 HP HWB HS5
        go_wp2_with fail
        refine HCM.out.mono ?_
        rintro e w7 ⟨rfl, hb7⟩
        have HB7 := Lib.hid (bt HB6.out hb7)
        clear hb7 HCM
        go_wp2_with fail
        go_ret
        exact ⟨rfl, HB7.out⟩
      · obtain rfl := h51 (by rw [h0]; decide)
        rw [h0]
        clear h50 h51 h0
        go_wp2_with fail
        go_ret
        exact ⟨rfl, HB5.out⟩
  · have HCE := Lib.hid hcells
    clear hcells HCP
    go_enter Tryd.func4, Tryd.ntmps4
    go_wp2_with fail
    refine (HP1.out 1 w.heap.size _ (HA0.out.mono (fun b hb => by rw [World.size_alloc]; exact hb)) HB0.out).mono ?_
    intro e w1 h1
    obtain ⟨v1, rfl, -, hb1⟩ := h1
    rw [odd_says]
    have HB1 := Lib.hid (bt HB0.out hb1)
    clear hb1 HA0 HB0 HP1
    go_wp2_with (at_builtin; refine wpList_append_own _ (by rfl) _ _ 25 (by rfl) w1.heap.size 35 i0 (.agg #[.int .i64 0, .string ⟨#[]⟩, .int .i64 0]) 3 32 Tryd.underlying25 HI.out HZ0.out HZ1.out HZ2.out rfl (by decide) (.slice none 0 0) 0 [] (by rfl) (World.ownsRow_nil _ _ _ _) x l.length c0 (l.flatMap tokC) (by rfl) HCL.out (HCE.out w1 HB1.out) ?qc3 (by unfold maxLen; have := HL.out; omega) (by have := HL.out; omega) (Nat.le_refl _) ?_)
    case qc3 => intro u hu; obtain ⟨y, _, hy⟩ := List.mem_flatMap.1 hu; simp [tokC] at hy; rcases hy with rfl | rfl | rfl <;> rfl
    intro v2 w2 hown2 hgrow2 _
    have hb2 := below_gn hgrow2
    have HB2 := Lib.hid (bt HB1.out hb2)
    have hs2 : SAt cTok w2 (fun _ => True) v2 l := SAt.of_row (f := tokC) (hf := fun _ => rfl) (by simpa using hown2) (fun _ _ => trivial)
    have HS2 : Hid (SAt cTok w2 (fun b => b < w2.heap.size) v2 l) := (SAt.bd (fun _ _ hr => hr) hs2).mono (fun _ hb => hb.2)
    clear hown2 hgrow2 hb2 hs2 HCE HCL
    go_wp2_with fail
    refine (HPA.out _ _ HS2.out HB2.out).mono ?_
    intro e w4 h4
    obtain ⟨v4, rfl, hs4, hb4⟩ := h4
    have HB4 := Lib.hid (bt HB2.out hb4)
    have HS4 := Lib.hid ((SAt.bd (fun _ _ hr => cmd_bd _ hr) hs4).mono (F' := fun b => b < w4.heap.size) (fun _ h => h.2))
    clear hs4 hb4 HS2
    rcases HFX.out with ⟨hz, hnil, hple⟩ | ⟨cs, hw, hF1, hf1, hl1⟩
    · obtain ⟨p, hp⟩ : ∃ p, p = (wholeS l).2.1 := ⟨_, rfl⟩
      obtain ⟨z, hzz⟩ : ∃ z, z = (wholeS l).2.2 := ⟨_, rfl⟩
      have hs4 := HS4.out
      rw [hnil] at hs4
      obtain ⟨G4, c4, rfl, -⟩ := hs4.form
      rw [← hp] at hple
      rw [← hzz] at hz
      rw [← hp, ← hzz]
      simp only [List.length_nil]
      have q1 : (z == 0) = false := beq_eq_false_iff_ne.2 hz
      have q2 : decide ((0 : Int) ≤ (p : Int)) = true := decide_eq_true (by omega)
      have q3 : decide (p ≤ l.length) = true := decide_eq_true hple
      clear hp hzz hnil hs4 HS4 HFX hz hple
      go_wp2_with fail
      go_ret
      exact ⟨rfl, HB4.out⟩
    · have hs4 := HS4.out
      rw [hw] at hs4 ⊢
      clear HS4 HFX hw
      obtain ⟨G4, c4, rfl, -⟩ := hs4.form
      have HS4 := Lib.hid hs4
      have HC := Lib.hid (HSH.out cs _ _ w4 hs4 hF1 hl1 HB4.out)
      have HF1 := Lib.hid hF1; have HL1 := Lib.hid hl1; have HF2 := Lib.hid hf1
      clear hs4 hF1 hl1 hf1 HSH
      go_wp2_with fail
      refine HC.out.mono ?_
      intro e w5 h5
      obtain ⟨h51, h50, hb5⟩ := h5
      have HB5 := Lib.hid (bt HB4.out hb5)
      have HS5 := Lib.hid (HS4.out.stable (Same.of_below hb5) hb5.size)
      clear HC HS4 hb5
      rcases check_fix HF2.out with h0 | h0
      · obtain ⟨v5, rfl, hr5⟩ := h50 h0
        obtain ⟨G5, c5, rfl⟩ := row_slice hr5
        have hk : (cs.flatMap wC).length ≤ 400 := by
          unfold checkS at h0
          rw [if_pos HF2.out] at h0
          by_cases hh : 400 < (cs.flatMap wC).length
          · rw [if_pos hh] at h0; exact absurd h0 (by decide)
          · omega
        have hs5 : SAt cTok w5 (fun _ => True) (.slice G5 (cs.flatMap wC).length c5) (cs.flatMap wC) := SAt.of_row (f := tokC) (hf := fun _ => rfl) hr5 (fun _ _ => trivial)
        have hs6 : SAt cTok w5 (fun b => b < w5.heap.size) (.slice G5 (cs.flatMap wC).length c5) (cs.flatMap wC) := (SAt.bd (fun _ _ hr => hr) hs5).mono (fun _ hb => hb.2)
        have HWB := Lib.hid (whole_back HF1.out HF2.out hk)
        have HP := Lib.hid (HP3.out _ _ w5 hs6 (ok_all HF1.out) HB5.out)
        obtain ⟨ts, hts⟩ : ∃ ts, ts = cs.flatMap wC := ⟨_, rfl⟩
        have HL2 : Hid ((cs.flatMap wC).length ≤ 1000000) := by unfold Hid; omega
        rw [← hts] at HP HWB hk ⊢
        clear h50 h51 h0 hs5 hs6 hr5 hts HP3 HL1
        go_wp2_with fail
        refine HP.out.mono ?_
        intro e w6 h6
        obtain ⟨v6, rfl, hs6, hb6⟩ := h6
        rw [HWB.out] at hs6 ⊢
        have HB6 := Lib.hid (bt HB5.out hb6)
        obtain ⟨G6, c6, rfl, -⟩ := hs6.form
        have HCM := Lib.hid (sameC_every _ cs _ _ _ _ _ w6 (HS5.out.stable (Same.of_below hb6) hb6.size) hs6 HF1.out HL2.out)
        clear hs6 hb6 HP HWB HS5
        go_wp2_with fail
        refine HCM.out.mono ?_
        rintro e w7 ⟨rfl, hb7⟩
        have HB7 := Lib.hid (bt HB6.out hb7)
        clear hb7 HCM
        go_wp2_with fail
        go_ret
        exact ⟨rfl, HB7.out⟩
      · obtain rfl := h51 (by rw [h0]; decide)
        rw [h0]
        clear h50 h51 h0
        go_wp2_with fail
        go_ret
        exact ⟨rfl, HB5.out⟩
theorem scriptFixed_walk (v : Value) (l : List Tok) (W : World) (h : SAt cTok W (fun _ => True) v l) (hl : (∀ t ∈ l, t.text.length ≤ 140737488351232) ∧ l.length * 32 ≤ 140737488351232) (hT : Tabs W W.heap.size) :
    Calls Tryd.prog 4 #[v] W fun e w' => e = .returned (.bool true) ∧ Below W.heap.size W w' :=
  scriptFixed_any l v (fun b => b < W.heap.size) W ((SAt.bd (fun _ _ hr => hr) h).mono (fun _ hb => hb.2)) hl.1 hl.2 hT
end Go.Proofs.YtlgbmnmoobpkkaaDoor.Sc
