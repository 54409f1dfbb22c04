/- On the way. -/
import Derived.Test.YtjfclekmhfgkmaaGreatDoorRRdZ
import Derived.Test.YtjfclekmhfgkmaaGreatDoorRScP
import Derived.Test.YtjfclekmhfgkmaaGreatDoorRScStk
import Derived.Test.YtjfclekmhfgkmaaGreatDoorRTokL
set_option linter.unusedVariables false
set_option linter.unusedSimpArgs false
namespace Go.Proofs.YtjfclekmhfgkmaaGreatDoor.Sc
open Tk (Tok)
def OkT (t : Tok) : Prop := Tk.checkT t = 0 ∧ (t.kind = 1 ∨ t.kind = 2 → t.text.length ≤ 20)
theorem okS (s : Str) : OkT (S s) := ⟨rfl, fun h => by rcases h with h | h <;> cases h⟩
theorem okN {n : Int} (h : 0 ≤ n ∧ n ≤ 2147483647) : OkT (N n) := ⟨by
 unfold Tk.checkT N
 rw [if_pos rfl, if_neg (by show ¬ (n < 0 ∨ 2147483647 < n); omega), if_pos rfl], fun h => by rcases h with h | h <;> cases h⟩
theorem ok_tst : ∀ i : Fin 11, 0 < i.val → Tk.checkT (W (tstTab.getD i.val [])) = 0 ∧ (tstTab.getD i.val []).length ≤ 20 := by decide +kernel
theorem ok_cmd : ∀ i : Fin 11, 0 < i.val → Tk.checkT (W (cmdTab.getD i.val [])) = 0 ∧ (cmdTab.getD i.val []).length ≤ 20 := by decide +kernel
theorem ok_mat : ∀ i : Fin 4, 0 < i.val → Tk.checkT (G (matTab.getD i.val [])) = 0 ∧ (matTab.getD i.val []).length ≤ 20 := by decide +kernel
theorem ok_par : ∀ i : Fin 4, 0 < i.val → Tk.checkT (G (parTab.getD i.val [])) = 0 ∧ (parTab.getD i.val []).length ≤ 20 := by decide +kernel
theorem okW_tst {k : Int} (h : 1 ≤ k ∧ k ≤ 10) : OkT (W (wd tstTab k)) := by
 obtain ⟨h1, h2⟩ := ok_tst ⟨k.toNat, by omega⟩ (by show 0 < k.toNat; omega)
 exact ⟨h1, fun _ => h2⟩
theorem okW_cmd {k : Int} (h : 1 ≤ k ∧ k ≤ 10) : OkT (W (wd cmdTab k)) := by
 obtain ⟨h1, h2⟩ := ok_cmd ⟨k.toNat, by omega⟩ (by show 0 < k.toNat; omega)
 exact ⟨h1, fun _ => h2⟩
theorem okG_mat {k : Int} (h : 1 ≤ k ∧ k ≤ 3) : OkT (G (wd matTab k)) := by
 obtain ⟨h1, h2⟩ := ok_mat ⟨k.toNat, by omega⟩ (by show 0 < k.toNat; omega)
 exact ⟨h1, fun _ => h2⟩
theorem okG_par {k : Int} (h : 1 ≤ k ∧ k ≤ 3) : OkT (G (wd parTab k)) := by
 obtain ⟨h1, h2⟩ := ok_par ⟨k.toNat, by omega⟩ (by show 0 < k.toNat; omega)
 exact ⟨h1, fun _ => h2⟩
theorem okM {c : UInt8} (h : Tk.checkT (M c) = 0) : OkT (M c) := ⟨h, fun h => by rcases h with h | h <;> cases h⟩
def OkL (l : List Tok) : Prop := ∀ t ∈ l, OkT t
theorem OkL.nil : OkL [] := fun _ h => by cases h
theorem OkL.cons {t : Tok} {l : List Tok} (h : OkT t) (hl : OkL l) : OkL (t :: l) := fun x hx => by
 rcases List.mem_cons.1 hx with rfl | hx
 ·exact h
 ·exact hl x hx
theorem OkL.app {a b : List Tok} (h : OkL a) (hb : OkL b) : OkL (a ++ b) := fun x hx => by
 rcases List.mem_append.1 hx with hx | hx
 ·exact h x hx
 ·exact hb x hx
theorem OkL.flat {α : Type} {l : List α} {f : α → List Tok} (h : ∀ a ∈ l, OkL (f a)) : OkL (l.flatMap f) := fun x hx => by
 obtain ⟨a, ha, hx⟩ := List.mem_flatMap.1 hx
 exact h a ha x hx
theorem ok44 : OkT (M 44) := okM (by decide +kernel)
theorem ok91 : OkT (M 91) := okM (by decide +kernel)
theorem ok93 : OkT (M 93) := okM (by decide +kernel)
theorem ok40 : OkT (M 40) := okM (by decide +kernel)
theorem ok41 : OkT (M 41) := okM (by decide +kernel)
theorem ok59 : OkT (M 59) := okM (by decide +kernel)
theorem ok123 : OkT (M 123) := okM (by decide +kernel)
theorem ok125 : OkT (M 125) := okM (by decide +kernel)
theorem ok_else : OkT (W elseW) ∧ OkT (W elsifW) := ⟨⟨by decide +kernel, fun _ => by decide⟩, ⟨by decide +kernel, fun _ => by decide⟩⟩
theorem ok_over (o : Bool) : OkT (G (if o = true then overW else underW)) := by
 cases o
 ·exact ⟨by decide +kernel, fun _ => by decide⟩
 ·exact ⟨by decide +kernel, fun _ => by decide⟩
theorem ok_listT : ∀ l : List Str, OkL (listT l)
 | [] => OkL.cons ok93 OkL.nil
 | [s] => OkL.cons (okS s) OkL.nil
 | s :: s2 :: l => by
  show OkL (M 91 :: S s :: ((s2 :: l).flatMap fun x => [M 44, S x]) ++ [M 93])
  exact (OkL.cons ok91 (OkL.cons (okS s) (OkL.flat (fun a _ => OkL.cons ok44 (OkL.cons (okS a) OkL.nil))))).app (OkL.cons ok93 OkL.nil)
theorem ok_seqT : ∀ l : List (List Tok), (∀ y ∈ l, OkL y) → OkL (seqT l)
 | [], _ => OkL.nil
 | x :: _, h => (OkL.cons ok40 (h x (List.mem_cons_self ..))).app (OkL.flat (fun y hy => OkL.cons ok44 (h y (List.mem_cons_of_mem _ hy))))
theorem ok_bodyT {k m p : Int} {ns ks : List Str} {o : Bool} {l : Int} {nt : Nat} {sub : List (List Tok)} (h : Form1 k m p ns.length ks.length o l nt) (hs : ∀ y ∈ sub, OkL y) : OkL (bodyT k m p ns ks o l sub) := by
 unfold bodyT
 unfold Form1 at h
 split
 ·exact fun x hx => by
   obtain ⟨y, hy, hx⟩ := List.mem_flatten.1 hx
   exact hs y hy x hx
 ·split
  ·exact (ok_seqT sub hs).app (OkL.cons ok41 OkL.nil)
  ·split
   ·exact OkL.cons (okG_mat (by omega)) ((ok_listT ns).app (ok_listT ks))
   ·split
    ·exact OkL.cons (okG_par (by omega)) (OkL.cons (okG_mat (by omega)) ((ok_listT ns).app (ok_listT ks)))
    ·split
     ·exact ok_listT ns
     ·split
      ·exact OkL.cons (ok_over o) (OkL.cons (okN (by omega)) OkL.nil)
      ·exact OkL.nil
mutual
theorem ok_wT : ∀ t : Tst, FormT t → OkL (wT t)
 | ⟨k, m, p, ns, ks, o, l, ts⟩, h => by
  rw [FormT] at h; rw [wT]
  exact OkL.cons (okW_tst h.1.kind) (ok_bodyT h.1 (ok_wTs ts h.2))
theorem ok_wTs : ∀ l : List Tst, FormTs l → ∀ y ∈ wTs l, OkL y
 | [], _ => fun y hy => by rw [wTs] at hy; cases hy
 | t :: l, h => fun y hy => by
  rw [FormTs] at h; rw [wTs] at hy
  rcases List.mem_cons.1 hy with rfl | hy
  ·exact ok_wT t h.1
  ·exact ok_wTs l h.2 y hy
end
theorem ok_blkT {x : List Tok} (h : OkL x) : OkL (blkT x) := OkL.cons ok123 (h.app (OkL.cons ok125 OkL.nil))
theorem ok_elseT {el : List Cmd} {all : List Tok} {brs : List (List Tok)} (h : OkL all) (hb : isElsif el = true → ∀ y ∈ brs, OkL y) : OkL (elseT el all brs) := by
 unfold elseT
 split
 ·rename_i he
  exact OkL.cons ok_else.2 (fun x hx => by
   obtain ⟨y, hy, hx⟩ := List.mem_flatten.1 hx
   exact hb he y hy x hx)
 ·split
  ·exact OkL.nil
  ·exact OkL.cons ok_else.1 (ok_blkT h)
theorem elsif_kind : ∀ {l : List Cmd}, isElsif l = true → ∀ c ∈ l, c.kind = 2
 | [c], h => fun d hd => by
  obtain rfl := List.mem_singleton.1 hd
  exact eq_of_beq h
mutual
theorem ok_wC : ∀ c : Cmd, FormC c → OkL (wC c)
 | ⟨k, tx, t, th, el⟩, h => by
  have hk := h.kind
  rw [FormC] at h; rw [wC]
  refine OkL.cons (okW_cmd hk) ?_
  split
  ·rename_i hk2
   obtain ⟨-, hT, h1, h2⟩ : k = 2 ∧ FormT t ∧ FormCs th ∧ FormCs el := h.2.resolve_right (fun e => e.1 hk2)
   exact (ok_wT t hT).app ((ok_blkT (ok_wCs th h1)).app (ok_elseT (ok_wCs el h2) (fun he => ok_wBs el h2 (elsif_kind he))))
  ·split
   ·exact OkL.cons ok59 OkL.nil
   ·exact (ok_listT tx).app (OkL.cons ok59 OkL.nil)
theorem ok_wCs : ∀ l : List Cmd, FormCs l → OkL (wCs l)
 | [], _ => by rw [wCs]; exact OkL.nil
 | c :: l, h => by
  rw [FormCs] at h; rw [wCs]
  exact (ok_wC c h.1).app (ok_wCs l h.2)
theorem ok_wBr : ∀ c : Cmd, FormC c → c.kind = 2 → OkL (wBr c)
 | ⟨k, tx, t, th, el⟩, h, hk2 => by
  rw [FormC] at h; rw [wBr]
  obtain ⟨-, hT, h1, h2⟩ : k = 2 ∧ FormT t ∧ FormCs th ∧ FormCs el := h.2.resolve_right (fun e => e.1 hk2)
  exact (ok_wT t hT).app ((ok_blkT (ok_wCs th h1)).app (ok_elseT (ok_wCs el h2) (fun he => ok_wBs el h2 (elsif_kind he))))
theorem ok_wBs : ∀ l : List Cmd, FormCs l → (∀ c ∈ l, c.kind = 2) → ∀ y ∈ wBs l, OkL y
 | [], _, _ => fun y hy => by rw [wBs] at hy; cases hy
 | c :: l, h, hk => fun y hy => by
  rw [FormCs] at h; rw [wBs] at hy
  rcases List.mem_cons.1 hy with rfl | hy
  ·exact ok_wBr c h.1 (hk c (List.mem_cons_self ..))
  ·exact ok_wBs l h.2 (fun d hd => hk d (List.mem_cons_of_mem _ hd)) y hy
end
theorem ok_all {cs : List Cmd} (hF : ∀ c ∈ cs, FormC c) : OkL (cs.flatMap wC) := OkL.flat (fun c hc => ok_wC c (hF c hc))
theorem OkL.take {l : List Tok} (h : OkL l) (k : Nat) : OkL (l.take k) := fun t ht => h t (List.mem_of_mem_take ht)
theorem OkL.chk : ∀ {l : List Tok} (_ : OkL l) (j : Nat), chkS j l = none
 | [], _, _ => rfl
 | t :: l, h, j => by
  rw [chkS, if_pos (h t (List.mem_cons_self ..)).1]
  exact OkL.chk (fun x hx => h x (List.mem_cons_of_mem _ hx)) (j + 1)
theorem OkL.whole {l : List Tok} (h : OkL l) (hn : l.length ≤ 400) : wholeS l = parseS l := by
 unfold wholeS
 rw [if_neg (by omega), h.chk 0]
theorem OkL.short {l : List Tok} (h : OkL l) : ∀ t ∈ l, t.kind = 1 ∨ t.kind = 2 → t.text.length ≤ 4611686018427387904 := fun t ht hk => by have := (h t ht).2 hk; omega
theorem whole_back {cs : List Cmd} (hF : ∀ c ∈ cs, FormC c) (hd : cs.all (fitC 0) = true) (hn : (cs.flatMap wC).length ≤ 400) : wholeS (cs.flatMap wC) = (cs, 0, 0) := ((ok_all hF).whole hn).trans (parse_back hF hd)
def Sh (l : List Tok) : Prop := ∀ t ∈ l, t.text.length ≤ 100
def ShS (l : List Str) : Prop := ∀ s ∈ l, s.length ≤ 100
theorem Sh.nil : Sh [] := fun _ h => by cases h
theorem ShS.nil : ShS [] := fun _ h => by cases h
theorem ShS.one {s : Str} (h : s.length ≤ 100) : ShS [s] := fun a ha => by rw [List.mem_singleton] at ha; rw [ha]; exact h
theorem Sh.cons {t : Tok} {l : List Tok} (h : t.text.length ≤ 100) (hl : Sh l) : Sh (t :: l) := fun x hx => by
 rcases List.mem_cons.1 hx with rfl | hx
 ·exact h
 ·exact hl x hx
theorem Sh.app {a b : List Tok} (h : Sh a) (hb : Sh b) : Sh (a ++ b) := fun x hx => (List.mem_append.1 hx).elim (h x) (hb x)
theorem Sh.flat {α : Type} {l : List α} {f : α → List Tok} (h : ∀ a ∈ l, Sh (f a)) : Sh (l.flatMap f) := fun x hx => by
 obtain ⟨a, ha, hx⟩ := List.mem_flatMap.1 hx
 exact h a ha x hx
theorem Sh.all {l : List (List Tok)} (h : ∀ y ∈ l, Sh y) : Sh l.flatten := fun x hx => by
 obtain ⟨y, hy, hx⟩ := List.mem_flatten.1 hx
 exact h y hy x hx
theorem sh_mark (c : UInt8) : (M c).text.length ≤ 100 := by show 1 ≤ 100; decide
theorem getD_short {tab : List Str} (h : ∀ s ∈ tab, s.length ≤ 100) (n : Nat) : (tab.getD n []).length ≤ 100 := by
 rw [List.getD_eq_getElem?_getD]
 cases e : tab[n]? with
 | none => exact Nat.zero_le _
 | some s => exact h s (List.mem_of_getElem? e)
theorem sh_list : ∀ l : List Str, ShS l → Sh (listT l)
 | [], _ => Sh.cons (sh_mark _) Sh.nil
 | [s], h => Sh.cons (h s (List.mem_cons_self ..)) Sh.nil
 | s :: s2 :: l, h => by
  show Sh (M 91 :: S s :: ((s2 :: l).flatMap fun x => [M 44, S x]) ++ [M 93])
  exact (Sh.cons (sh_mark _) (Sh.cons (h s (List.mem_cons_self ..)) (Sh.flat (fun a ha => Sh.cons (sh_mark _) (Sh.cons (h a (List.mem_cons_of_mem _ ha)) Sh.nil))))).app (Sh.cons (sh_mark _) Sh.nil)
theorem sh_seq : ∀ l : List (List Tok), (∀ y ∈ l, Sh y) → Sh (seqT l)
 | [], _ => Sh.nil
 | x :: _, h => (Sh.cons (sh_mark _) (h x (List.mem_cons_self ..))).app (Sh.flat (fun y hy => Sh.cons (sh_mark _) (h y (List.mem_cons_of_mem _ hy))))
theorem sh_body {k m p : Int} {ns ks : List Str} {o : Bool} {l : Int} {sub : List (List Tok)} (hn : ShS ns) (hk : ShS ks) (hs : ∀ y ∈ sub, Sh y) : Sh (bodyT k m p ns ks o l sub) := by
 have hM : (G (wd matTab m)).text.length ≤ 100 := getD_short (by decide) _
 have hP : (G (wd parTab p)).text.length ≤ 100 := getD_short (by decide) _
 unfold bodyT
 split
 ·exact Sh.all hs
 ·split
  ·exact (sh_seq sub hs).app (Sh.cons (sh_mark _) Sh.nil)
  ·split
   ·exact Sh.cons hM ((sh_list ns hn).app (sh_list ks hk))
   ·split
    ·exact Sh.cons hP (Sh.cons hM ((sh_list ns hn).app (sh_list ks hk)))
    ·split
     ·exact sh_list ns hn
     ·split
      ·exact Sh.cons (by cases o <;> decide) (Sh.cons (Nat.zero_le _) Sh.nil)
      ·exact Sh.nil
theorem sh_tst {t : Tst} (hn : ShS t.names) (hk : ShS t.keys) (hs : ∀ s ∈ t.tests, Sh (wT s)) : Sh (wT t) := by
 rw [wT_eq]
 exact Sh.cons (getD_short (by decide) _) (sh_body hn hk (fun y hy => by obtain ⟨s, hs', rfl⟩ := List.mem_map.1 hy; exact hs s hs'))
theorem keys_sh (x : Stk) : ShS (keysS x) := fun s hs => by
 unfold keysS at hs
 rcases List.mem_cons.1 hs with rfl | hs
 ·rw [List.length_take]; omega
 ·split at hs
  ·rw [List.mem_singleton] at hs; rw [hs, List.length_take]; omega
  ·cases hs
theorem wordL_short (s : Str) : (wordL s).length ≤ 100 := by
 unfold wordL
 split
 ·decide
 ·rw [List.length_map, List.length_take]; omega
theorem sh_zero (k : Int) : Sh (wT (zeroT k)) := sh_tst ShS.nil ShS.nil (fun _ h => by cases h)
theorem sh_leaf (k : Int) (x : Stk) : Sh (wT (leafS k x)) := by
 unfold leafS
 split
 ·exact sh_tst (ShS.one (getD_short (by decide) _)) (keys_sh x) (fun _ h => by cases h)
 ·split
  ·exact sh_tst (ShS.one (getD_short (by decide) _)) (keys_sh x) (fun _ h => by cases h)
  ·split
   ·exact sh_tst (ShS.one (getD_short (by decide) _)) (keys_sh x) (fun _ h => by cases h)
   ·split
    ·refine sh_tst (fun s hs => ?_) ShS.nil (fun _ h => by cases h)
     rcases List.mem_cons.1 (List.mem_of_mem_take hs) with rfl | hs
     ·exact getD_short (by decide) _
     ·rw [List.mem_singleton] at hs; rw [hs]; exact wordL_short _
    ·split
     ·exact sh_tst ShS.nil ShS.nil (fun _ h => by cases h)
     ·exact sh_zero k
theorem sh_test : ∀ (m : Nat) (x : Stk), Sh (wT (testS m x))
 | 0, x => by
  rw [testS]
  split
  ·exact sh_zero 1
  ·exact sh_leaf _ x
 | m + 1, x => by
  rw [testS]
  split
  ·exact sh_tst ShS.nil ShS.nil (fun s hs => by
    obtain rfl : s = testS m (notS x) := List.mem_singleton.1 hs
    exact sh_test m _)
  ·split
   ·refine sh_tst ShS.nil ShS.nil (fun s hs => ?_)
    have hs' : s ∈ (if x.subs = [] then [zeroT (1 + (pick x.a 2 : Nat))] else (x.subs.take 3).map (testS m)) := hs
    split at hs'
    ·rw [List.mem_singleton] at hs'; rw [hs']; exact sh_zero _
    ·obtain ⟨y, -, rfl⟩ := List.mem_map.1 hs'; exact sh_test m y
   ·exact sh_leaf _ x
theorem textsS_short (k : Int) (x : Stk) : ShS (textsS k x) := by
 unfold textsS
 split
 ·exact ShS.one (getD_short (by decide) _)
 ·split
  ·exact ShS.one (getD_short (by decide) _)
  ·split
   ·exact ShS.one (by rw [List.length_take]; omega)
   ·split
    ·exact ShS.one (getD_short (by decide) _)
    ·exact ShS.nil
theorem sh_plain {c : Cmd} (h : c.kind ≠ 2) (ht : ShS c.texts) : Sh (wC c) := by
 rw [wC_else h]
 refine Sh.cons (getD_short (by decide) _) (Sh.app ?_ (Sh.cons (sh_mark _) Sh.nil))
 split
 ·exact Sh.nil
 ·exact sh_list _ ht
theorem sh_blk {x : List Tok} (h : Sh x) : Sh (blkT x) := Sh.cons (sh_mark _) (h.app (Sh.cons (sh_mark _) Sh.nil))
theorem sh_br {c : Cmd} (ht : Sh (wT c.test)) (h1 : ∀ d ∈ c.thn, Sh (wC d)) (h2 : ∀ d ∈ c.els, Sh (wC d) ∧ Sh (wBr d)) : Sh (wBr c) := by
 rw [wBr_eq]
 refine ht.app ((sh_blk (Sh.flat h1)).app ?_)
 unfold elseT
 split
 ·exact Sh.cons (by decide) (Sh.all (fun y hy => by obtain ⟨d, hd, rfl⟩ := List.mem_map.1 hy; exact (h2 d hd).2))
 ·split
  ·exact Sh.nil
  ·exact Sh.cons (by decide) (sh_blk (Sh.flat (fun d hd => (h2 d hd).1)))
theorem sh_lone (k : Int) (tx : List Str) : Sh (wBr ⟨k, tx, T0, [], []⟩) := sh_br (sh_tst ShS.nil ShS.nil (fun _ h => by cases h)) (fun _ h => by cases h) (fun _ h => by cases h)
theorem sh_cmd : ∀ (m : Nat) (x : Stk), Sh (wC (cmdS m x)) ∧ Sh (wBr (cmdS m x))
 | 0, x => by
  rw [cmdS]
  refine ⟨sh_plain ?_ (textsS_short _ x), sh_lone _ _⟩
  show (if kindC x = 2 then (3 : Int) else kindC x) ≠ 2
  split
  ·decide
  ·assumption
 | m + 1, x => by
  rw [cmdS]
  split
  ·have hb := sh_br (c := ⟨2, [], testS 2 (askS x), ((x.subs.take (halfS x)).take 4).map (cmdS m), ((x.subs.drop (halfS x)).take 4).map (cmdS m)⟩) (sh_test 2 _)
    (fun d hd => by obtain ⟨y, -, rfl⟩ := List.mem_map.1 hd; exact (sh_cmd m y).1) (fun d hd => by obtain ⟨y, -, rfl⟩ := List.mem_map.1 hd; exact sh_cmd m y)
   exact ⟨by rw [wC_if rfl]; exact Sh.cons (by decide) hb, hb⟩
  ·rename_i h; exact ⟨sh_plain h (textsS_short _ x), sh_lone _ _⟩
theorem script_short (l : List Stk) : Sh ((scriptS l).flatMap wC) := Sh.flat fun c hc => by
 unfold scriptS at hc
 rcases List.mem_cons.1 (List.mem_of_mem_take hc) with rfl | hc
 ·exact sh_plain (by decide) (by unfold ShS; decide)
 ·obtain ⟨y, -, rfl⟩ := List.mem_map.1 hc; exact (sh_cmd 2 y).1
end Go.Proofs.YtjfclekmhfgkmaaGreatDoor.Sc
namespace Go.Proofs.YtjfclekmhfgkmaaGreatDoor.Tk
theorem join_long : ∀ (ts : List Tok) (acc : List UInt8), (∀ t ∈ ts, checkT t = 0) → acc.length ≤ 2000 → 2000 < (acc ++ jn ts).length → joinF acc ts = ([], 1)
 | [], acc, _, h1, h2 => by
  rw [show jn [] = [] from rfl, List.append_nil] at h2; omega
 | t :: ts, acc, hc, _, h2 => by
  have h0 := hc t (List.mem_cons_self ..)
  have e : acc ++ jn (t :: ts) = (acc ++ formL t ++ [32]) ++ jn ts := by
   show acc ++ ((formL t ++ [32]) ++ jn ts) = _
   simp only [List.append_assoc]
  by_cases hb : 2000 < (acc ++ formL t ++ [32]).length
  ·rw [joinF, if_pos h0, if_pos hb]
  ·rw [joinF, if_pos h0, if_neg hb]
   exact join_long ts _ (fun x hx => hc x (List.mem_cons_of_mem _ hx)) (by omega) (by rw [e] at h2; exact h2)
theorem join_text {ts : List Tok} (h : ∀ t ∈ ts, checkT t = 0) (hn : ts.length ≤ 400) : joinL ts = ([], 1) ∨ joinL ts = (jn ts, 0) ∧ cutL (jn ts) = (ts, 0, 0) := by
 by_cases hl : (jn ts).length ≤ 2000
 ·exact .inr (token_back h hn hl)
 ·left
  rw [joinL, if_neg (by omega)]
  exact join_long ts [] h (Nat.zero_le _) (by rw [List.nil_append]; omega)
theorem text_brace {ts : List Tok} (h : ∀ t ∈ ts, checkT t = 0) (hn : ts.length ≤ 400) : (cutL (jn ts ++ [125])).2.2 ≠ 0 ∨ cutL (jn ts ++ [125]) = (ts ++ [⟨5, [125], 0⟩], 0, 0) := by
 by_cases hl : (jn ts ++ [125]).length ≤ 2000
 ·rw [cutL_eq hl, cut_jn ts 0 [125] h (by omega), Nat.zero_add]
  by_cases he : ts.length = 400
  ·left
   rw [he, cutR_full (l := [125]) (by decide) (by decide), map_err, cutEnd_err]
   show (5 : Int) ≠ 0
   decide
  ·right
   rw [cutR_tok (c := 125) (l := []) (by decide) (by decide) (by decide) he (one_mark [] (by decide)), cutR_end (l := []) (by decide) (by decide)]
   show cutEnd _ [] (.ok (ts ++ [⟨5, [125], 0⟩])) = _
   rw [cutEnd_ok]; rfl
 ·left
  rw [cutL, if_pos (by omega)]
  show (1 : Int) ≠ 0
  decide
theorem cut_none {s : List UInt8} (h : (cutL s).2.2 ≠ 0) : (cutL s).1 = [] := by
 by_cases hb : 2000 < s.length
 ·unfold cutL; rw [if_pos hb]
 ·unfold cutL at h ⊢
  rw [if_neg hb] at h ⊢
  cases e : cutF (s.length + 1) 0 s with
  | error p => rfl
  | ok ts => rw [e] at h; exact absurd rfl h
end Go.Proofs.YtjfclekmhfgkmaaGreatDoor.Tk
