/- On the way. -/
import Derived.Test.YtpfbkdbblpppdaaGreatDoorEDvG
import Derived.Test.YtpfbkdbblpppdaaGreatDoorEJdB
import Derived.Test.YtpfbkdbblpppdaaGreatDoorEWhoPlain
set_option linter.unusedVariables false
set_option linter.unusedSimpArgs false
namespace Go.Proofs.YtpfbkdbblpppdaaGreatDoor.Dv
open Sc (Str Stk Cmd cmdS cmdsS textsS kindC redirW T0 scriptS)
open Jd (Ltt partL Crs cmdJ cmdsJ doJ addJ actJ endJ rdJ FlagOk C0 ltrX keepA)
def ActOk (a : Jd.Act) : Prop := (a.kind = 3 ∨ a.kind = 4 ∨ a.kind = 5 ∨ (a.kind = 6 ∧ oneL a.text = true ∧ a.text.length ≤ 100) ∨ (a.kind = 7 ∧ a.text.length ≤ 2000)) ∧ 0 ≤ a.flags ∧ a.flags ≤ 31
def CrsOk (c : Crs) : Prop := FlagOk c ∧ ∀ a ∈ c.acts, ActOk a
theorem ActOk.kinds {a : Jd.Act} (h : ActOk a) : 3 ≤ a.kind ∧ a.kind ≤ 7 ∧ 0 ≤ a.flags := by
 obtain ⟨h, h0, -⟩ := h
 refine ⟨?_, ?_, h0⟩ <;> rcases h with h | h | h | ⟨h, -⟩ | ⟨h, -⟩ <;> omega
theorem keep_act {f : Int} (h0 : 0 ≤ f) (h1 : f ≤ 31) : ActOk (keepA f) := ⟨.inl rfl, h0, h1⟩
theorem endJ_ok {c : Crs} (h : CrsOk c) : ∀ a ∈ endJ c, ActOk a := by
 obtain ⟨n, hn, hf⟩ := h.1
 unfold endJ
 split
 ·intro a ha; rw [List.mem_singleton] at ha; subst ha; exact keep_act (by omega) (by omega)
 ·split
  ·intro a ha; rw [List.mem_singleton] at ha; subst ha; exact keep_act (by omega) (by omega)
  ·exact h.2
theorem addJ_ok {c : Crs} {a : Jd.Act} (h : CrsOk c) (ha : ActOk a) : CrsOk (addJ c a).1 := by
 refine ⟨Jd.addJ_flag h.1, ?_⟩
 unfold addJ
 split
 ·exact h.2
 ·split
  ·exact h.2
  ·split
   ·exact h.2
   ·intro b hb
    rcases List.mem_append.1 hb with hb | hb
    ·exact h.2 b hb
    ·rw [List.mem_singleton] at hb; subst hb; exact ha
theorem redir_act : ∀ n : Nat, n < 3 → oneL (rdJ [redirW.getD n []]) = true ∧ (rdJ [redirW.getD n []]).length ≤ 100 := by decide +kernel
theorem plain_keep (y : Stk) {k : Int} (hk : 3 ≤ k ∧ k ≤ 10) (c : Crs) (h : CrsOk c) : CrsOk (doJ c ⟨k, textsS k y, T0, [], []⟩).1 := by
 have hd := Jd.plain_do y hk
 refine ⟨Jd.doJ_flag h.1 hd, ?_⟩
 obtain ⟨n, hn, hf⟩ := h.1
 unfold doJ
 split
 ·exact h.2
 ·split
  ·exact h.2
  ·split
   ·exact h.2
   ·split
    ·exact h.2
    ·next h10 h8 h9 h1 =>
     refine (addJ_ok h ?_).2
     dsimp only at h10 h8 h9 h1
     unfold actJ
     dsimp only
     split
     ·next h5 => exact ⟨.inr (.inr (.inl rfl)), by show (0:Int) ≤ c.flags; omega, by show c.flags ≤ 31; omega⟩
     ·split
      ·exact ⟨.inl rfl, by show (0:Int) ≤ c.flags; omega, by show c.flags ≤ 31; omega⟩
      ·split
       ·next h6 =>
        subst h6
        have a3 := pick_lt_int y.a 3 (by omega)
        have e : textsS 6 y = [redirW.getD (pick y.a 3) []] := rfl
        rw [e]
        obtain ⟨r1, r2⟩ := redir_act (pick y.a 3) (by omega)
        exact ⟨.inr (.inr (.inr (.inl ⟨rfl, r1, r2⟩))), Int.le_refl _, by show (0 : Int) ≤ 31; decide⟩
       ·split
        ·next h7 =>
         subst h7
         have e : textsS 7 y = [y.s.take 12] := rfl
         rw [e]
         exact ⟨.inr (.inr (.inr (.inr ⟨rfl, by show (y.s.take 12).length ≤ 2000; rw [List.length_take]; omega⟩))), Int.le_refl _, by show (0 : Int) ≤ 31; decide⟩
        ·exact ⟨.inr (.inl (show k = 4 by omega)), Int.le_refl _, by show (0 : Int) ≤ 31; decide⟩
theorem cmdsJ_keep {x : Ltt} {fs : List Fld} : ∀ (l : List Cmd) (c : Crs), (∀ d ∈ l, ∀ c, CrsOk c → CrsOk (cmdJ x fs d c).1) → CrsOk c → CrsOk (cmdsJ x fs l c).1
 | [], c, _, hc => by rw [cmdsJ]; exact hc
 | d :: l, c, h, hc => by
  rw [cmdsJ]
  have h1 := h d (List.mem_cons_self ..) c hc
  split
  ·exact cmdsJ_keep l _ (fun e he => h e (List.mem_cons_of_mem _ he)) h1
  ·exact h1
theorem cmdS_keep (x : Ltt) (fs : List Fld) : ∀ (m : Nat) (y : Stk) (c : Crs), CrsOk c → CrsOk (cmdJ x fs (cmdS m y) c).1
 | 0, y, c, h => by
  have hk := Sc.kindC_ok y
  rw [cmdS]
  by_cases h2 : kindC y = 2
  ·have e : textsS (kindC y) y = textsS 3 y := by rw [h2]; rfl
   rw [if_pos h2, e, cmdJ, if_neg (by decide)]
   exact plain_keep y (by decide) c h
  ·rw [if_neg h2, cmdJ, if_neg h2]
   exact plain_keep y (by omega) c h
 | m + 1, y, c, h => by
  have hk := Sc.kindC_ok y
  rw [cmdS]
  by_cases h2 : kindC y = 2
  ·rw [if_pos h2, cmdJ, if_pos rfl]
   split
   ·refine cmdsJ_keep _ c (fun d hd c hc => ?_) h
    obtain ⟨z, -, rfl⟩ := List.mem_map.1 hd
    exact cmdS_keep x fs m z c hc
   ·refine cmdsJ_keep _ c (fun d hd c hc => ?_) h
    obtain ⟨z, -, rfl⟩ := List.mem_map.1 hd
    exact cmdS_keep x fs m z c hc
  ·rw [if_neg h2, cmdJ, if_neg h2]
   exact plain_keep y (by omega) c h
theorem C0_ok : CrsOk C0 := ⟨Jd.C0_flag, fun a h => by cases h⟩
theorem script_keep (x : Ltt) (fs : List Fld) (l : List Stk) : CrsOk (cmdsJ x fs (scriptS l) C0).1 := by
 obtain ⟨r, e, k, hl⟩ := Sc.script_cons l
 refine cmdsJ_keep _ _ (fun d hd c hc => ?_) C0_ok
 rw [e, hl] at hd
 rcases List.mem_cons.1 hd with rfl | hd
 ·exact hc
 ·obtain ⟨z, -, rfl⟩ := List.mem_map.1 (List.mem_of_mem_take hd)
  exact cmdS_keep x fs 2 z c hc
def EntOk (x : Ltt) (bs : List Str) (e : Ent) : Prop := formV e = 0 ∧ (e.kind = 6 ∨ e.kind = 2 ∧ e.box ∈ bs ∧ e.text = x.text)
def Apart (l : List Ent) : Prop := l.Pairwise fun a b => ¬ (a.kind = 2 ∧ b.kind = 2 ∧ a.box = b.box)
theorem append_form (f : Nat) (n t : Str) (hf : f ≤ 31) (hn : nameCode n = 0) (ht : t.length ≤ 2000) : formV ⟨2, f, 0, n, [], t⟩ = 0 := by
 have hs : shapeOK ⟨2, f, 0, n, [], t⟩ = true := rfl
 unfold formV
 rw [hs, if_neg (by show ¬ ((2 : Nat) < 1 ∨ 6 < 2); decide), if_neg (by decide), if_neg (by show ¬ (31 < f ∨ 1048576 < 0); omega), if_neg (by show ¬ 2000 < t.length; omega), if_neg (by show ¬ (2 : Nat) = 6; decide), if_neg (by show ¬ nameCode n ≠ 0; rw [hn]; decide), if_neg (by show ¬ (2 : Nat) = 5; decide)]
theorem spool_form (d t : Str) (h1 : oneL d = true) (h2 : d.length ≤ 100) (ht : t.length ≤ 2000) : formV ⟨6, 0, 0, [], d, t⟩ = 0 := by
 have hs : shapeOK ⟨6, 0, 0, [], d, t⟩ = true := rfl
 unfold formV
 rw [hs, if_neg (by show ¬ ((6 : Nat) < 1 ∨ 6 < 6); decide), if_neg (by decide), if_neg (by show ¬ (31 < 0 ∨ 1048576 < 0); decide), if_neg (by show ¬ 2000 < t.length; omega), if_pos rfl, if_pos ⟨h1, h2⟩]
theorem nmD_mem {bs : List Str} (hb : inboxW ∈ bs) (name : Str) : nmD bs name ∈ bs := by
 unfold nmD
 split
 ·next h => simpa using h
 ·exact hb
structure DelOk (x : Ltt) (bs : List Str) : Prop where
 inbox : inboxW ∈ bs
 names : ∀ b ∈ bs, nameCode b = 0
 text : x.text.length ≤ 2000
 one : oneL (partL 1 x.fa x.fd) = true
 len : (partL 1 x.fa x.fd).length ≤ 100
theorem fileD_ok {x : Ltt} {bs : List Str} (h : DelOk x bs) {out : List Ent} (ho : (∀ e ∈ out, EntOk x bs e) ∧ Apart out) (name : Str) (f : Nat) (hf : f ≤ 31) : (∀ e ∈ fileD bs x.text out name f, EntOk x bs e) ∧ Apart (fileD bs x.text out name f) := by
 unfold fileD
 split
 ·exact ho
 ·next hn =>
  refine ⟨fun e he => ?_, ?_⟩
  ·rcases List.mem_append.1 he with he | he
   ·exact ho.1 e he
   ·rw [List.mem_singleton] at he
    subst he
    have hm := nmD_mem h.inbox name
    exact ⟨append_form f _ _ hf (h.names _ hm) h.text, .inr ⟨rfl, hm, rfl⟩⟩
  ·refine List.pairwise_append.2 ⟨ho.2, List.pairwise_singleton _ _, fun a ha b hb => ?_⟩
   rw [List.mem_singleton] at hb
   subst hb
   rintro ⟨k1, -, k3⟩
   refine hn (List.any_eq_true.2 ⟨a, ha, ?_⟩)
   have k3' : a.box = nmD bs name := k3
   unfold hasD
   rw [k1, k3', beq_self_eq_true, beq_self_eq_true]; rfl
theorem snoc_ok {x : Ltt} {bs : List Str} {out : List Ent} (ho : (∀ e ∈ out, EntOk x bs e) ∧ Apart out) (e : Ent) (hk : e.kind = 6) (hf : formV e = 0) : (∀ a ∈ out ++ [e], EntOk x bs a) ∧ Apart (out ++ [e]) := by
 refine ⟨fun a ha => ?_, ?_⟩
 ·rcases List.mem_append.1 ha with ha | ha
  ·exact ho.1 a ha
  ·rw [List.mem_singleton] at ha
   subst ha
   exact ⟨hf, .inl hk⟩
 ·refine List.pairwise_append.2 ⟨ho.2, List.pairwise_singleton _ _, fun a ha b hb => ?_⟩
  rw [List.mem_singleton] at hb
  subst hb
  rintro ⟨-, k2, -⟩
  omega
theorem actD_ok {x : Ltt} {bs : List Str} (h : DelOk x bs) {out : List Ent} (ho : (∀ e ∈ out, EntOk x bs e) ∧ Apart out) (a : Jd.Act) (ha : ActOk a) : (∀ e ∈ actD x bs out a, EntOk x bs e) ∧ Apart (actD x bs out a) := by
 obtain ⟨hk, h0, h1⟩ := ha
 have hf : a.flags.toNat ≤ 31 := by omega
 unfold actD
 split
 ·exact fileD_ok h ho _ _ hf
 ·split
  ·exact fileD_ok h ho _ _ hf
  ·split
   ·next h6 =>
    rcases hk with hk | hk | hk | ⟨-, hk1, hk2⟩ | ⟨hk, -⟩ <;> try omega
    exact snoc_ok ho _ rfl (spool_form _ _ hk1 hk2 h.text)
   ·split
    ·next h7 =>
     rcases hk with hk | hk | hk | ⟨hk, -⟩ | ⟨-, hk⟩ <;> try omega
     exact snoc_ok ho _ rfl (spool_form _ _ h.one h.len hk)
    ·exact ho
theorem planD_ok {x : Ltt} {bs : List Str} (h : DelOk x bs) (la : List Jd.Act) (hl : ∀ a ∈ la, ActOk a) : (∀ e ∈ planD x bs la, EntOk x bs e) ∧ Apart (planD x bs la) := by
 have key : ∀ (la : List Jd.Act) (out : List Ent), (∀ a ∈ la, ActOk a) → ((∀ e ∈ out, EntOk x bs e) ∧ Apart out) → ((∀ e ∈ la.foldl (actD x bs) out, EntOk x bs e) ∧ Apart (la.foldl (actD x bs) out)) := by
  intro la
  induction la with
  | nil => intro out _ h; exact h
  | cons a la ih => intro out hl ho; exact ih _ (fun b hb => hl b (List.mem_cons_of_mem _ hb)) (actD_ok h ho a (hl a (List.mem_cons_self ..)))
 exact key la [] hl ⟨fun e h => (by cases h), List.Pairwise.nil⟩
theorem names_set {l : List Bx} {i : Nat} {b b' : Bx} (h : l[i]? = some b) (hn : b'.name = b.name) : (l.set i b').map Bx.name = l.map Bx.name := by
 rw [List.map_set]
 refine List.ext_getElem? fun k => ?_
 rw [List.getElem?_set]
 split
 ·next e =>
  subst e
  rw [List.getElem?_map, h]
  have := (List.getElem?_eq_some_iff.1 h).1
  rw [List.length_map, if_pos this, hn]; rfl
 ·rfl
theorem names_add {s t : St} {i f : Nat} {tx : List UInt8} (h : addS s i f tx = some t) : t.boxes.map Bx.name = s.boxes.map Bx.name := by
 unfold addS at h
 split at h
 ·cases h
 ·next b hb =>
  split at h
  ·cases h
  ·obtain rfl := Option.some.inj h
   exact names_set hb rfl
theorem mem_names {n : Str} {s : St} (x : Ent) (h : n ∈ s.boxes.map Bx.name) : n ∈ (applyS s x).1.boxes.map Bx.name := by
 unfold applyS
 split
 ·split
  ·exact h
  ·exact h
 ·split
  ·split
   ·split
    ·exact h
    ·show n ∈ (s.boxes ++ [_]).map Bx.name
     rw [List.map_append]; exact List.mem_append_left _ h
   ·exact h
  ·split
   ·exact h
   ·split
    ·split
     ·next t ht => rw [names_add ht]; exact h
     ·exact h
    ·split
     ·exact h
     ·next b hb =>
      split
      ·show n ∈ (s.boxes.set _ _).map Bx.name
       rw [names_set hb]
       ·exact h
       ·rfl
      ·split
       ·exact h
       ·split
        ·exact h
        ·split
         ·show n ∈ (s.boxes.set _ _).map Bx.name
          rw [names_set hb]
          ·exact h
          ·rfl
         ·split
          ·exact h
          ·split
           ·next t ht => rw [names_add ht]; exact h
           ·exact h
theorem inbox_state (cs : List Raw) : inboxW ∈ (stBx cs).boxes.map Bx.name := by
 unfold stBx
 generalize cs.take 40 = l
 have key : ∀ (l : List Raw) (s : St), inboxW ∈ s.boxes.map Bx.name → inboxW ∈ (l.foldl stepS s).boxes.map Bx.name := by
  intro l
  induction l with
  | nil => intro s h; exact h
  | cons c l ih =>
   intro s h
   refine ih _ ?_
   unfold stepS
   split
   ·rw [allS_one s _ (entOf_form c)]
    split
    ·exact h
    ·exact mem_names _ h
   ·exact h
 exact key l _ (by show inboxW ∈ [inboxW]; exact List.mem_singleton.2 rfl)
theorem find_mem {bs : List Bx} {n : Str} (h : n ∈ bs.map Bx.name) : findB bs n ≠ none := fun e => by
 obtain ⟨b, hb, rfl⟩ := List.mem_map.1 h
 exact findB_none e b hb rfl
theorem apply_five {s : St} {x : Ent} (h : x.kind = 6 ∨ x.kind = 2 ∧ x.box ∈ s.boxes.map Bx.name) : (applyS s x).2 = 0 ∨ (applyS s x).2 = 5 := by
 unfold applyS
 rcases h with h | ⟨h, hm⟩
 ·rw [if_pos h]
  split
  ·exact .inr rfl
  ·exact .inl rfl
 ·rw [if_neg (by omega)]
  split
  ·next e => exact absurd e (find_mem hm)
  ·rw [if_neg (by omega), if_pos h]
   split
   ·exact .inl rfl
   ·exact .inr rfl
theorem allS_five : ∀ (l : List Ent) (s : St), (∀ e ∈ l, formV e = 0 ∧ (e.kind = 6 ∨ e.kind = 2 ∧ e.box ∈ s.boxes.map Bx.name)) → (allS s l).2 = 0 ∨ (allS s l).2 = 5
 | [], s, _ => .inl rfl
 | x :: l, s, h => by
  obtain ⟨h1, h2⟩ := h x (List.mem_cons_self ..)
  rw [allS, if_neg (by rw [h1]; decide)]
  split
  ·next h0 => exact .inr ((apply_five h2).resolve_left h0)
  ·exact allS_five l _ fun e he => by
    obtain ⟨k1, k2⟩ := h e (List.mem_cons_of_mem _ he)
    exact ⟨k1, k2.imp id fun k => ⟨k.1, mem_names x k.2⟩⟩
theorem sender (a d : List UInt8) : partL 1 (addrL a).data.toList (addrD d).data.toList = wordL a ++ 64 :: (wordL d ++ [46, 111, 114, 103]) := by
 unfold partL
 rw [if_neg (by rw [chk_ok]; decide), if_pos rfl]
 have e2 : (addrD d).data.toList = wordL d ++ [46, 111, 114, 103] := by unfold addrD; simp
 rw [e2]
 show wordL a ++ [64] ++ _ = _
 simp
theorem ltr_ok (a0 a1 b0 b1 : ByteArray) (z : Nat → Nat → ByteArray) (n : Nat) (bo : ByteArray) (cs : List Raw) : DelOk (ltrX a0 a1 b0 b1 z n bo) ((stBx cs).boxes.map Bx.name) := by
 have hl : (partL 1 (ltrX a0 a1 b0 b1 z n bo).fa (ltrX a0 a1 b0 b1 z n bo).fd).length ≤ 100 := by
  have h1 := wordL_le a0.data.toList
  have h2 := wordL_le a1.data.toList
  show (partL 1 (addrL _).data.toList (addrD _).data.toList).length ≤ 100
  rw [sender]
  simp only [List.length_append, List.length_cons, List.length_nil]
  omega
 refine ⟨inbox_state cs, fun b hb => ?_, (Jd.ltrX_ok a0 a1 b0 b1 z n bo).size, ?_, hl⟩
 ·obtain ⟨c, hc, rfl⟩ := List.mem_map.1 hb
  exact ((stBx_good cs).ok c hc).1
 ·show oneL (partL 1 (addrL _).data.toList (addrD _).data.toList) = true
  have hl' : (partL 1 (addrL a0.data.toList).data.toList (addrD a1.data.toList).data.toList).length ≤ 100 := hl
  unfold oneL
  rw [decide_eq_true (show _ ≤ 2000 by omega), sender, list_one]; rfl
end Go.Proofs.YtpfbkdbblpppdaaGreatDoor.Dv
