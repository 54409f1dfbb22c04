/- On the way. -/
import Derived.Test.YtmkppkjikifdlaaGreatDoorTScRd13
import Derived.Test.YtmkppkjikifdlaaGreatDoorTScTk
import Derived.Tactics
import Derived.Tactics2
import Derived.Defers
import Derived.Recover
import Derived.Deep.RegionHeld3
set_option linter.unusedVariables false
set_option linter.unusedSimpArgs false
set_option maxHeartbeats 8000000
set_option maxRecDepth 20000
namespace Go.Proofs.YtmkppkjikifdlaaGreatDoor.Sc
open Go.RowKit
open Tk (Tok)
structure PR3 (w : World) (R : Nat) (v : Value) (p c : Int) : Prop where
 c0 : w.cell? ⟨R, 0, none⟩ = some v
 c1 : w.cell? ⟨R + 1, 0, none⟩ = some (.int .i64 p)
 c2 : w.cell? ⟨R + 2, 0, none⟩ = some (.int .i64 c)
 f0 : w.frozen? ⟨R, 0, none⟩ = false
 f1 : w.frozen? ⟨R + 1, 0, none⟩ = false
 f2 : w.frozen? ⟨R + 2, 0, none⟩ = false
theorem PR3.lt {w : World} {R : Nat} {v : Value} {p c : Int} (h : PR3 w R v p c) : R + 2 < w.heap.size := World.block_lt_of_cell? _ _ h.c2
theorem PR3.same {w w' : World} {R : Nat} {v : Value} {p c : Int} (h : PR3 w R v p c) (hs : ∀ k, R ≤ k → k < R + 3 → w'.heap[k]? = w.heap[k]?) : PR3 w' R v p c :=
 ⟨(World.cell?_of_block (w := w) (a := ⟨R, 0, none⟩) (hs R (by omega) (by omega))).trans h.c0, (World.cell?_of_block (w := w) (a := ⟨R + 1, 0, none⟩) (hs (R + 1) (by omega) (by omega))).trans h.c1, (World.cell?_of_block (w := w) (a := ⟨R + 2, 0, none⟩) (hs (R + 2) (by omega) (by omega))).trans h.c2,
  (World.frozen?_of_block (w := w) (a := ⟨R, 0, none⟩) (hs R (by omega) (by omega))).trans h.f0, (World.frozen?_of_block (w := w) (a := ⟨R + 1, 0, none⟩) (hs (R + 1) (by omega) (by omega))).trans h.f1, (World.frozen?_of_block (w := w) (a := ⟨R + 2, 0, none⟩) (hs (R + 2) (by omega) (by omega))).trans h.f2⟩
theorem PR3.grown {w w' : World} {R : Nat} {v : Value} {p c : Int} {o : Option Nat} (h : PR3 w R v p c) (g : w.grownBy w' o) (ho : ∀ x, o = some x → R + 2 < x) : PR3 w' R v p c :=
 h.same (fun k _ h2 => g.block k (by have := h.lt; omega) (fun e => by have := ho k e.symm; omega))
theorem PR3.down {w w' : World} {R : Nat} {v : Value} {p c : Int} (h : PR3 w R v p c) (g : Below w.heap.size w w') : PR3 w' R v p c := h.grown (gBelow g (R + 3)) (fun x e => by obtain rfl : R + 3 = x := Option.some.inj e; omega)
theorem PR3.set0 {w : World} {R : Nat} {v : Value} {p c : Int} (h : PR3 w R v p c) (u : Value) : PR3 (w.setCell ⟨R, 0, none⟩ u) R u p c :=
 ⟨World.cell?_setCell_same _ _ _ h.c0, (World.cell?_setCell_other _ _ _ _ (by intro e; have := congrArg Addr.block e; simp at this)).trans h.c1, (World.cell?_setCell_other _ _ _ _ (by intro e; have := congrArg Addr.block e; simp at this)).trans h.c2, (World.frozen?_setCell ..).trans h.f0, (World.frozen?_setCell ..).trans h.f1, (World.frozen?_setCell ..).trans h.f2⟩
theorem PR3.set1 {w : World} {R : Nat} {v : Value} {p c : Int} (h : PR3 w R v p c) (q : Int) : PR3 (w.setCell ⟨R + 1, 0, none⟩ (.int .i64 q)) R v q c :=
 ⟨(World.cell?_setCell_other _ _ _ _ (by intro e; have := congrArg Addr.block e; simp at this)).trans h.c0, World.cell?_setCell_same _ _ _ h.c1, (World.cell?_setCell_other _ _ _ _ (by intro e; have := congrArg Addr.block e; simp at this)).trans h.c2, (World.frozen?_setCell ..).trans h.f0, (World.frozen?_setCell ..).trans h.f1, (World.frozen?_setCell ..).trans h.f2⟩
theorem PR3.set2 {w : World} {R : Nat} {v : Value} {p c : Int} (h : PR3 w R v p c) (q : Int) : PR3 (w.setCell ⟨R + 2, 0, none⟩ (.int .i64 q)) R v p q :=
 ⟨(World.cell?_setCell_other _ _ _ _ (by intro e; have := congrArg Addr.block e; simp at this)).trans h.c0, (World.cell?_setCell_other _ _ _ _ (by intro e; have := congrArg Addr.block e; simp at this)).trans h.c1, World.cell?_setCell_same _ _ _ h.c2, (World.frozen?_setCell ..).trans h.f0, (World.frozen?_setCell ..).trans h.f1, (World.frozen?_setCell ..).trans h.f2⟩
def set3 (w : World) (R : Nat) (v : Value) (p c : Int) : World := ((w.setCell ⟨R, 0, none⟩ v).setCell ⟨R + 1, 0, none⟩ (.int .i64 p)).setCell ⟨R + 2, 0, none⟩ (.int .i64 c)
theorem PR3.set3 {w : World} {R : Nat} {v : Value} {p c : Int} (h : PR3 w R v p c) (v' : Value) (p' c' : Int) : PR3 (set3 w R v' p' c') R v' p' c' := ((h.set0 v').set1 p').set2 c'
theorem set3_same (w : World) (R : Nat) (v : Value) (p c : Int) (k : Nat) (hk : k < R ∨ R + 2 < k) : (set3 w R v p c).heap[k]? = w.heap[k]? := by
 unfold set3
 exact ((Below.heap_setCell _ _ _ _ (by show k ≠ R + 2; omega)).trans (Below.heap_setCell _ _ _ _ (by show k ≠ R + 1; omega))).trans (Below.heap_setCell _ _ _ _ (by show k ≠ R; omega))
theorem set3_size (w : World) (R : Nat) (v : Value) (p c : Int) : (set3 w R v p c).heap.size = w.heap.size := by unfold set3; simp [World.setCell]
theorem set3_below {w W : World} {R : Nat} (h : Below w.heap.size w W) (hR : w.heap.size ≤ R) (v : Value) (p c : Int) : Below w.heap.size w (set3 W R v p c) := by
 unfold set3
 exact ((h.setCell (by show w.heap.size ≤ R; exact hR) _).setCell (by show w.heap.size ≤ R + 1; omega) _).setCell (by show w.heap.size ≤ R + 2; omega) _
theorem wpAt {P : Program} {c : Code} {Q : Exit → Act → World → Prop} {a : Act} {w : World} (R : World → Prop) (hR : R w) (h : ∀ V, R V → c.wp P Q a V) : c.wp P Q a w := h w hR
theorem catch_idle (p q r : Addr) (w : World) :
    CallsD Tryz.prog 74 #[.pointer (some p), .pointer (some q), .pointer (some r)] .returning w fun e u' w' => e = .returned (.tuple #[]) ∧ u' = .returning ∧ w' = w := by
 refine callsD_of_wpS Tryz.func74 rfl fun c₀ cs hu => ?_
 apply wpS_seq
 apply wpS_region
 simp [wpOpsS, go_sem, recoverD, hu, Tryz.ntmps74, Exit.thenS]
 refine wpS_of_wp ?_
 show Code.wp _ _ _ ⟨#[.pointer (some p), .pointer (some q), .pointer (some r), .nilIface, undef, .nilIface, undef, undef, undef, undef, undef, undef, undef, undef], []⟩ w
 go_wp2
 cases c₀
 simp_all [bodyPostS, results, Tryz.results74]
theorem catch_panicking (R : Nat) (v : Value) (p0 c0 pl er : Int) (older : List PanicEntry) (w : World) (h : PR3 w R v p0 c0) :
    CallsD Tryz.prog 74 #[.pointer (some ⟨R, 0, none⟩), .pointer (some ⟨R + 1, 0, none⟩), .pointer (some ⟨R + 2, 0, none⟩)] (.panicking ({ v := .iface 152 (.agg #[.int .i64 pl, .int .i64 er]), recovered := false } :: older)) w fun e u' w' =>
     e = .returned (.tuple #[]) ∧ u' = .panicking ({ v := .iface 152 (.agg #[.int .i64 pl, .int .i64 er]), recovered := true } :: older) ∧ ∃ V, Below w.heap.size w V ∧ w' = set3 V R (.slice none 0 0) pl er := by
 refine callsD_of_wpS Tryz.func74 rfl fun c₀ cs hu => ?_
 apply wpS_seq
 apply wpS_region
 simp [wpOpsS, go_sem, recoverD, hu, Tryz.ntmps74, Exit.thenS]
 refine wpS_of_wp ?_
 show Code.wp _ _ _ ⟨#[.pointer (some ⟨R, 0, none⟩), .pointer (some ⟨R + 1, 0, none⟩), .pointer (some ⟨R + 2, 0, none⟩), .iface 152 (.agg #[.int .i64 pl, .int .i64 er]), undef, .iface 152 (.agg #[.int .i64 pl, .int .i64 er]), undef, undef, undef, undef, undef, undef, undef, undef], []⟩ w
 have hta : ∀ w, (Instr.typeAssert (.iface 152 (.agg #[.int .i64 pl, .int .i64 er])) 20 152 false).run Tryz.prog w = .ok (.agg #[.int .i64 pl, .int .i64 er]) w := fun _ => by kernel_rfl
 have hlt := h.lt
 have H := Lib.hid h
 clear h
 go_wp2
 obtain ⟨N, hN⟩ : ∃ N, N = w.heap.size := ⟨_, rfl⟩
 have hB := ba (Below.refl w.heap.size w) (.cells #[.int .i64 pl, .int .i64 er] 152)
 have hH := Has.alloc w [.int .i64 pl, .int .i64 er] 152
 rw [← hN] at hH hlt
 rw [show w.heap.size = N from hN.symm]
 refine wpAt (R := fun V => Below w.heap.size w V ∧ PR3 V R v p0 c0 ∧ Has V N [.int .i64 pl, .int .i64 er]) ⟨hB, H.out.down hB, hH⟩ (fun V hV => ?_)
 clear hB hH
 obtain ⟨hB, ⟨r0, r1, r2, f0, f1, f2⟩, hh⟩ := hV
 have e0 := hh.1 0 _ rfl
 have e1 := hh.1 1 _ rfl
 have HB := Lib.hid hB
 clear hB hh hN H
 go_region
 all_goals exact ⟨rfl, _, rfl, .tuple #[], by simp [results, Tryz.results74], rfl, rfl, V.drew, Below.drew HB.out, rfl⟩
def chkS : Nat → List Tok → Option (Nat × Int)
 | _, [] => none
 | j, t :: r => if Tk.checkT t = 0 then chkS (j + 1) r else some (j, Tk.checkT t)
def wholeS (l : List Tok) : List Cmd × Nat × Int := if 400 < l.length then ([], 0, 5) else match chkS 0 l with
 | some (j, c) => ([], j, c)
 | none => parseS l
theorem chk_step {l : List Tok} {j : Nat} (h : j < l.length) : chkS j (l.drop j) = if Tk.checkT l[j] = 0 then chkS (j + 1) (l.drop (j + 1)) else some (j, Tk.checkT l[j]) := by
 rw [List.drop_eq_getElem_cons h, chkS]
def ParseP (l : List Tok) (w : World) (e : Ending) (w' : World) : Prop :=
 ∃ v, e = .returned (.tuple #[v, .int .i64 ((wholeS l).2.1 : Int), .int .i64 (wholeS l).2.2]) ∧ SAt (cCmd (l.length + 8)) w' (fun x => w.heap.size ≤ x) v (wholeS l).1 ∧ Below w.heap.size w w'
theorem ParseP.none {l : List Tok} {w w' : World} {j : Nat} {c : Int} (h : wholeS l = ([], j, c)) (hb : Below w.heap.size w w') : ParseP l w (.returned (.tuple #[.slice none 0 0, .int .i64 (j : Int), .int .i64 c])) w' := by
 unfold ParseP; rw [h]; exact ⟨_, rfl, SAt.nil _ _ _, hb⟩
def Knows (R : Nat) (tmps : Array Value) : Prop := tmps.getD 2 undef = .pointer (some ⟨R, 0, none⟩) ∧ tmps.getD 3 undef = .pointer (some ⟨R + 1, 0, none⟩) ∧ tmps.getD 4 undef = .pointer (some ⟨R + 2, 0, none⟩)
theorem Knows.res {R : Nat} {tmps : Array Value} (h : Knows R tmps) {w : World} {v : Value} {p c : Int} (hp : PR3 w R v p c) : (results Tryz.f45 tmps).run Tryz.prog w = .ok (.tuple #[v, .int .i64 p, .int .i64 c]) w := by
 obtain ⟨h1, h2, h3⟩ := h
 have h1' : tmps[2]?.getD undef = .pointer (some ⟨R, 0, none⟩) := by simpa using h1
 have h2' : tmps[3]?.getD undef = .pointer (some ⟨R + 1, 0, none⟩) := by simpa using h2
 have h3' : tmps[4]?.getD undef = .pointer (some ⟨R + 2, 0, none⟩) := by simpa using h3
 simp [results, Tryz.results45, go_sem, h1', h2', h3', hp.c0, hp.c1, hp.c2]
def defP (R : Nat) : Deferred := { target := .fn (.func 74) #[.pointer (some ⟨R, 0, none⟩), .pointer (some ⟨R + 1, 0, none⟩), .pointer (some ⟨R + 2, 0, none⟩)], args := #[] }
theorem leave_ret {R : Nat} {tmps : Array Value} (h : Knows R tmps) {w : World} {v : Value} {p c : Int} (hp : PR3 w R v p c) {Post : Ending → World → Prop} (hq : Post (.returned (.tuple #[v, .int .i64 p, .int .i64 c])) w) : Leaves Tryz.prog Tryz.f45 tmps Post [defP R] .returning w := by
 refine leaves_cons (f := 74) (args := #[.pointer (some ⟨R, 0, none⟩), .pointer (some ⟨R + 1, 0, none⟩), .pointer (some ⟨R + 2, 0, none⟩)]) (by simp) (by simp [go_sem]) ?_
 refine (catch_idle ⟨R, 0, none⟩ ⟨R + 1, 0, none⟩ ⟨R + 2, 0, none⟩ _).mono ?_
 rintro e u' w6 ⟨rfl, rfl, rfl⟩
 exact ⟨_, h.res hp, hq⟩
theorem leave_panic {R : Nat} {tmps : Array Value} (h : Knows R tmps) {w : World} {v : Value} {p0 c0 pl er : Int} (hp : PR3 w R v p0 c0) {Post : Ending → World → Prop} (hq : ∀ V, Below w.heap.size w V → Post (.returned (.tuple #[.slice none 0 0, .int .i64 pl, .int .i64 er])) (set3 V R (.slice none 0 0) pl er)) :
    Leaves Tryz.prog Tryz.f45 tmps Post [defP R] (.panicking [{ v := .iface 152 (.agg #[.int .i64 pl, .int .i64 er]), recovered := false }]) w := by
 refine leaves_cons (f := 74) (args := #[.pointer (some ⟨R, 0, none⟩), .pointer (some ⟨R + 1, 0, none⟩), .pointer (some ⟨R + 2, 0, none⟩)]) (by simp) (by simp [go_sem]) ?_
 refine (catch_panicking R v p0 c0 pl er [] w hp).mono ?_
 rintro e u' w6 ⟨rfl, rfl, V, hb, rfl⟩
 exact ⟨_, h.res ((hp.down hb).set3 _ _ _), hq V hb⟩
def PanicD (R : Nat) (Qp : List PanicEntry → World → Prop) (Q : Exit → Act → World → Prop) : Exit → Act → World → Prop
 | .panic c, a, w => (a.defers = [defP R] ∧ Knows R a.tmps) ∧ Qp c w
 | e, a, w => Q e a w
theorem PanicD.normal {R : Nat} {Qp : List PanicEntry → World → Prop} {Q : Exit → Act → World → Prop} {a : Act} {w : World} (h : Q .normal a w) : PanicD R Qp Q .normal a w := h
theorem Knows.put {R : Nat} {a : Act} {dst : Option Tmp} {v : Value} (hd : dst ≠ some 2 ∧ dst ≠ some 3 ∧ dst ≠ some 4) (h : Knows R (a.put dst v).tmps) : Knows R a.tmps := by
 cases dst with
 | none => exact h
 | some d =>
  have key : ∀ i, d ≠ i → (a.tmps.setIfInBounds d v).getD i undef = a.tmps.getD i undef := fun i hi => by
   simp [hi]
  obtain ⟨h1, h2, h3⟩ := h
  obtain ⟨d1, d2, d3⟩ := hd
  exact ⟨(key 2 (fun e => d1 (by rw [e]))).symm.trans h1, (key 3 (fun e => d2 (by rw [e]))).symm.trans h2, (key 4 (fun e => d3 (by rw [e]))).symm.trans h3⟩
theorem PanicD.put {R : Nat} {Qp : List PanicEntry → World → Prop} {Q : Exit → Act → World → Prop} {a : Act} {c : List PanicEntry} {w : World} {dst : Option Tmp} {v : Value} (hd : dst ≠ some 2 ∧ dst ≠ some 3 ∧ dst ≠ some 4) (h : PanicD R Qp Q (.panic c) (a.put dst v) w) : PanicD R Qp Q (.panic c) a w :=
 ⟨⟨by have := h.1.1; cases dst <;> exact this, h.1.2.put hd⟩, h.2⟩
theorem wp_region_panicD {P : Program} {id : Nat} {ops : Array Oper} {b : Bool} {Q : Exit → Act → World → Prop} {a : Act} {w : World} (R : Nat) (Qp : List PanicEntry → World → Prop) (hQ : ∀ c a w, a.defers = [defP R] → Knows R a.tmps → Qp c w → Q (.panic c) a w) (h : (Code.region id ops b).wp P (PanicD R Qp Q) a w) : (Code.region id ops b).wp P Q a w :=
 Code.wp_mono (fun e a w h => by
  cases e <;> first | exact h | exact hQ _ a w h.1.1 h.1.2 h.2) h
structure Q1 (w W V : World) (b R K : Nat) (v : Value) (F : Dom) (all r : List Tok) (vt : Value) (ps : Held Cmd) : Prop where
 rd : RL V b v F all r
 pr : PR3 V R vt 0 0
 row : ORow (cCmd K) 160 V (b + 1) (DmB (b + 1) W vt) vt ps
 bw : Below w.heap.size w V
 Rb : R + 2 < b
 wR : w.heap.size ≤ R
 low : ∀ x, F x → x < w.heap.size
 sz : W.heap.size ≤ V.heap.size
theorem below_gr {w V V' : World} {b : Nat} (h : Below w.heap.size w V) (g : V.grownBy V' (some b)) (hb : w.heap.size ≤ b) : Below w.heap.size w V' :=
 ⟨g.os.trans h.os, g.tape.trans h.tape, g.output.trans h.output, Nat.le_trans h.size g.size, fun k hk => (g.block k (Nat.lt_of_lt_of_le hk h.size) (by intro e; have := Option.some.inj e; omega)).trans (h.block k hk)⟩
theorem Q1.next {w W V V' : World} {b R K : Nat} {v : Value} {F : Dom} {all r r' : List Tok} {vt : Value} {ps : Held Cmd} (h : Q1 w W V b R K v F all r vt ps) (hr : RL V' b v F all r') (g : V.grownBy V' (some b)) : Q1 w W V' b R K v F all r' vt ps :=
 have h1 := h.Rb
 have h2 := h.wR
 ⟨hr, h.pr.grown g (fun x e => by obtain rfl : b = x := Option.some.inj e; omega), h.row.kept g (by
  by_cases e : vt.ownBlock = none
  ·exact .inl e
  ·refine .inr fun e2 => ?_
   have := (h.row.1.lt b e2).1
   omega) (fun x e => by obtain rfl : b = x := Option.some.inj e; exact DmB_off (by omega)), below_gr h.bw g (by omega), h1, h2, h.low, Nat.le_trans h.sz g.size⟩
theorem Q1.down {w W V V' : World} {b R K : Nat} {v : Value} {F : Dom} {all r : List Tok} {vt : Value} {ps : Held Cmd} (h : Q1 w W V b R K v F all r vt ps) (g : Below V.heap.size V V') : Q1 w W V' b R K v F all r vt ps := h.next (h.rd.below g) (gBelow g b)
def ElC (W V : World) (K : Nat) (t : Cmd) (vs : List Value) : Prop := (cCmd K).rep V (fun x => W.heap.size ≤ x ∧ x < V.heap.size) t vs
theorem ElC.down {W V V' : World} {K : Nat} {t : Cmd} {vs : List Value} (h : ElC W V K t vs) (g : Below V.heap.size V V') : ElC W V' K t vs :=
 (cCmd K).mono ((cCmd K).stable h (Same.of_below g) g.size) (fun _ hx => ⟨hx.1, Nat.lt_of_lt_of_le hx.2 g.size⟩)
structure Q2 (w V1 V : World) (b R : Nat) (v : Value) (F : Dom) (all r : List Tok) (vt vl : Value) (g n cap : Nat) (xs : List Value) : Prop where
 rd : RL V b v F all r
 pr : PR3 V R vl 0 0
 own : V.ownsRow (b + 1) 160 12 (.slice (some ⟨g, 0, none⟩) (n + 1) cap) (n + 1) xs
 bw : Below w.heap.size w V
 Rb : R + 2 < b
 wR : w.heap.size ≤ R
 low : ∀ x, F x → x < w.heap.size
 same : ∀ x, b < x → x < V1.heap.size → vt.ownBlock ≠ some x → V.heap[x]? = V1.heap[x]?
 sz : V1.heap.size ≤ V.heap.size
theorem Q2.gb {w V1 V : World} {b R g n cap : Nat} {v : Value} {F : Dom} {all r : List Tok} {xs : List Value} {vt vl : Value} (h : Q2 w V1 V b R v F all r vt vl g n cap xs) : b < g := (h.own.lt g rfl).1
theorem Q2.start {w W V w6 : World} {b R K g n cap : Nat} {v : Value} {F : Dom} {all r : List Tok} {xs : List Value} {vt : Value} {ps : Held Cmd} (h : Q1 w W V b R K v F all r vt ps) (hown : w6.ownsRow (b + 1) 160 12 (.slice (some ⟨g, 0, none⟩) (n + 1) cap) (n + 1) xs) (hg : V.grownBy w6 vt.ownBlock) : Q2 w V w6 b R v F all r vt vt g n cap xs :=
 have hlo : ∀ x, vt.ownBlock = some x → b + 1 ≤ x := fun x e => (h.row.1.lt x e).1
 have h1 := h.Rb
 have h2 := h.wR
 ⟨h.rd.grown hg (fun x e => ⟨by have := hlo x e; omega, fun hF => by have := hlo x e; have := h.rd.low x hF; omega⟩), h.pr.grown hg (fun x e => by have := hlo x e; omega), hown,
  ⟨hg.os.trans h.bw.os, hg.tape.trans h.bw.tape, hg.output.trans h.bw.output, Nat.le_trans h.bw.size hg.size, fun k hk => (hg.block k (Nat.lt_of_lt_of_le hk h.bw.size) (by intro e; have := hlo k e.symm; omega)).trans (h.bw.block k hk)⟩, h1, h2, h.low,
  fun x _ h2 h3 => hg.block x h2 (fun e => h3 e.symm), hg.size⟩
theorem Q2.setR {w V1 V : World} {b R g n cap : Nat} {v : Value} {F : Dom} {all r : List Tok} {xs : List Value} {vt vl : Value} (h : Q2 w V1 V b R v F all r vt vl g n cap xs) (u : Value) : Q2 w V1 (V.setCell ⟨R, 0, none⟩ u) b R v F all r vt u g n cap xs :=
 have h1 := h.Rb
 have h2 := h.wR
 have hz : (V.setCell ⟨R, 0, none⟩ u).heap.size = V.heap.size := by simp [World.setCell]
 ⟨by
  obtain ⟨n', a1, a2⟩ := h.rd
  have hk : ∀ x, x ≠ R → (V.setCell ⟨R, 0, none⟩ u).heap[x]? = V.heap[x]? := fun x hx => Below.heap_setCell _ _ _ _ (by show x ≠ R; exact hx)
  have a2' := a2.set n'
  refine ⟨n', a1, (World.cell?_of_block (w := V) (a := ⟨b, 0, none⟩) (hk b (by omega))).trans a2.c0, (World.cell?_of_block (w := V) (a := ⟨b, 1, none⟩) (hk b (by omega))).trans a2.c1, (World.frozen?_of_block (w := V) (a := ⟨b, 1, none⟩) (hk b (by omega))).trans a2.f1, by have := a2.lt; omega, ?_, a2.low⟩
  exact a2.toks.stable (fun x hx _ => hk x (by have := h.low x hx; omega)) (by omega), h.pr.set0 u, ownsRow_setCell_below h.own (show R < b + 1 by omega) u, h.bw.setCell (by show w.heap.size ≤ R; exact h2) u, h1, h2, h.low,
  fun x h1' h2' h3 => (Below.heap_setCell _ _ _ _ (by show x ≠ R; omega)).trans (h.same x h1' h2' h3), by have := h.sz; omega⟩
theorem Q2.one {w V1 V : World} {b R g n cap : Nat} {v : Value} {F : Dom} {all r : List Tok} {xs : List Value} {vt vl : Value} (h : Q2 w V1 V b R v F all r vt vl g n cap xs) (hat : vt.ownBlock = some g ∨ g = V1.heap.size) (j : Nat) (u : Value) : Q2 w V1 (V.setCell ⟨g, j, none⟩ u) b R v F all r vt vl g n cap (xs.set j u) :=
 have h1 := h.Rb
 have h2 := h.wR
 have h3 := h.gb
 ⟨rl_far h.rd h3 u, h.pr.same (fun k _ hk => Below.heap_setCell _ _ _ _ (by show k ≠ g; omega)), (h.own.stored j u).1, h.bw.setCell (by show w.heap.size ≤ g; omega) u, h1, h2, h.low, fun x k1 k2 k3 => (Below.heap_setCell _ _ _ _ (by
  show x ≠ g
  rintro rfl
  rcases hat with e | e
  ·exact k3 e
  ·omega)).trans (h.same x k1 k2 k3), by have := h.sz; simpa [World.setCell] using this⟩
theorem set_app12 {xs : List Value} {z0 z1 z2 z3 z4 z5 z6 z7 z8 z9 z10 z11 a0 a1 a2 a3 a4 a5 a6 a7 a8 a9 a10 a11 : Value} {k : Nat} (h : xs.length = k) : ((((((((((((xs ++ [z0, z1, z2, z3, z4, z5, z6, z7, z8, z9, z10, z11]).set k a0).set (k + 1) a1).set (k + 2) a2).set (k + 3) a3).set (k + 4) a4).set (k + 5) a5).set (k + 6) a6).set (k + 7) a7).set (k + 8) a8).set (k + 9) a9).set (k + 10) a10).set (k + 11) a11 = xs ++ [a0, a1, a2, a3, a4, a5, a6, a7, a8, a9, a10, a11] := by
 subst h
 rw [List.set_append_right _ _ (Nat.le_refl _), List.set_append_right _ _ (by omega), List.set_append_right _ _ (by omega), List.set_append_right _ _ (by omega), List.set_append_right _ _ (by omega), List.set_append_right _ _ (by omega), List.set_append_right _ _ (by omega), List.set_append_right _ _ (by omega), List.set_append_right _ _ (by omega), List.set_append_right _ _ (by omega), List.set_append_right _ _ (by omega), List.set_append_right _ _ (by omega)]
 simp
theorem Q2.st12 {w V1 V : World} {b R g n cap : Nat} {v : Value} {F : Dom} {all r : List Tok} {ys : List Value} {vt vl z0 z1 z2 z3 z4 z5 z6 z7 z8 z9 z10 z11 : Value} (h : Q2 w V1 V b R v F all r vt vl g n cap (ys ++ [z0, z1, z2, z3, z4, z5, z6, z7, z8, z9, z10, z11])) (hy : ys.length = n * 12) (hat : vt.ownBlock = some g ∨ g = V1.heap.size) (a0 a1 a2 a3 a4 a5 a6 a7 a8 a9 a10 a11 : Value) :
    Q2 w V1 ((((((((((((V.setCell ⟨g, n * 12, none⟩ a0).setCell ⟨g, n * 12 + 1, none⟩ a1).setCell ⟨g, n * 12 + 2, none⟩ a2).setCell ⟨g, n * 12 + 3, none⟩ a3).setCell ⟨g, n * 12 + 4, none⟩ a4).setCell ⟨g, n * 12 + 5, none⟩ a5).setCell ⟨g, n * 12 + 6, none⟩ a6).setCell ⟨g, n * 12 + 7, none⟩ a7).setCell ⟨g, n * 12 + 8, none⟩ a8).setCell ⟨g, n * 12 + 9, none⟩ a9).setCell ⟨g, n * 12 + 10, none⟩ a10).setCell ⟨g, n * 12 + 11, none⟩ a11) b R v F all r vt vl g n cap (ys ++ [a0, a1, a2, a3, a4, a5, a6, a7, a8, a9, a10, a11]) := by
 have h12 := (((((((((((h.one hat (n * 12) a0).one hat (n * 12 + 1) a1).one hat (n * 12 + 2) a2).one hat (n * 12 + 3) a3).one hat (n * 12 + 4) a4).one hat (n * 12 + 5) a5).one hat (n * 12 + 6) a6).one hat (n * 12 + 7) a7).one hat (n * 12 + 8) a8).one hat (n * 12 + 9) a9).one hat (n * 12 + 10) a10).one hat (n * 12 + 11) a11
 rwa [set_app12 hy] at h12
theorem Q2.cells12 {w V1 V : World} {b R g n cap : Nat} {v : Value} {F : Dom} {all r : List Tok} {ys : List Value} {vt vl z0 z1 z2 z3 z4 z5 z6 z7 z8 z9 z10 z11 : Value} (h : Q2 w V1 V b R v F all r vt vl g n cap (ys ++ [z0, z1, z2, z3, z4, z5, z6, z7, z8, z9, z10, z11])) (hy : ys.length = n * 12) :
    V.cell? ⟨g, n * 12, none⟩ = some z0 ∧ V.cell? ⟨g, n * 12 + 1, none⟩ = some z1 ∧ V.cell? ⟨g, n * 12 + 2, none⟩ = some z2 ∧ V.cell? ⟨g, n * 12 + 3, none⟩ = some z3 ∧ V.cell? ⟨g, n * 12 + 4, none⟩ = some z4 ∧ V.cell? ⟨g, n * 12 + 5, none⟩ = some z5 ∧ V.cell? ⟨g, n * 12 + 6, none⟩ = some z6 ∧ V.cell? ⟨g, n * 12 + 7, none⟩ = some z7 ∧ V.cell? ⟨g, n * 12 + 8, none⟩ = some z8 ∧ V.cell? ⟨g, n * 12 + 9, none⟩ = some z9 ∧ V.cell? ⟨g, n * 12 + 10, none⟩ = some z10 ∧ V.cell? ⟨g, n * 12 + 11, none⟩ = some z11 ∧
    V.frozen? ⟨g, n * 12, none⟩ = false ∧ V.frozen? ⟨g, n * 12 + 1, none⟩ = false ∧ V.frozen? ⟨g, n * 12 + 2, none⟩ = false ∧ V.frozen? ⟨g, n * 12 + 3, none⟩ = false ∧ V.frozen? ⟨g, n * 12 + 4, none⟩ = false ∧ V.frozen? ⟨g, n * 12 + 5, none⟩ = false ∧ V.frozen? ⟨g, n * 12 + 6, none⟩ = false ∧ V.frozen? ⟨g, n * 12 + 7, none⟩ = false ∧ V.frozen? ⟨g, n * 12 + 8, none⟩ = false ∧ V.frozen? ⟨g, n * 12 + 9, none⟩ = false ∧ V.frozen? ⟨g, n * 12 + 10, none⟩ = false ∧ V.frozen? ⟨g, n * 12 + 11, none⟩ = false := by
 have key : ∀ j u, ([z0, z1, z2, z3, z4, z5, z6, z7, z8, z9, z10, z11] : List Value)[j]? = some u → V.cell? ⟨g, n * 12 + j, none⟩ = some u := fun j u hu => by
  have hj : j < 12 := (List.getElem?_eq_some_iff.1 hu).1
  rw [h.own.cellAt (n * 12 + j) (by omega), List.getElem?_append_right (by omega), hy, Nat.add_sub_cancel_left]
  exact hu
 have fr := fun j => h.own.frozenAt j
 exact ⟨key 0 _ rfl, key 1 _ rfl, key 2 _ rfl, key 3 _ rfl, key 4 _ rfl, key 5 _ rfl, key 6 _ rfl, key 7 _ rfl, key 8 _ rfl, key 9 _ rfl, key 10 _ rfl, key 11 _ rfl, fr _, fr _, fr _, fr _, fr _, fr _, fr _, fr _, fr _, fr _, fr _, fr _⟩
theorem row_fin2 {α : Type} {c : Cod α} {ty : TypeId} {W V w' : World} {T g cap : Nat} {vt : Value} {ps : Held α} {t : α} {vs : List Value} (hrow : ORow c ty V (T + 1) (DmB (T + 1) W vt) vt ps) (hW : W.heap.size ≤ V.heap.size) (hel : c.rep V (fun x => W.heap.size ≤ x ∧ x < V.heap.size) t vs) (hv : ∀ x, vt.ownBlock = some x → x < W.heap.size) (hT : T + 1 ≤ W.heap.size)
    (hown : w'.ownsRow (T + 1) ty c.size (.slice (some ⟨g, 0, none⟩) (ps.length + 1) cap) (ps.length + 1) (hcells ps ++ vs)) (hat : vt.ownBlock = some g ∨ g = V.heap.size) (hsame : ∀ x, T < x → x < V.heap.size → vt.ownBlock ≠ some x → w'.heap[x]? = V.heap[x]?) (hsz : V.heap.size ≤ w'.heap.size) :
    ORow c ty w' (T + 1) (DmB (T + 1) w' (.slice (some ⟨g, 0, none⟩) (ps.length + 1) cap)) (.slice (some ⟨g, 0, none⟩) (ps.length + 1) cap) (ps ++ [(t, vs)]) := by
 have hg : ∀ x, x < V.heap.size → vt.ownBlock ≠ some x → (Value.slice (some ⟨g, 0, none⟩) (ps.length + 1) cap).ownBlock ≠ some x := fun x h1 h2 e => by
  have e' : g = x := Option.some.inj e
  rcases hat with h | h
  ·exact h2 (e' ▸ h)
  ·omega
 refine ⟨?_, fun p hp => ?_, fun x hx hh => hh.2.2 hx⟩
 ·rw [hcells_snoc, List.length_append]; exact hown
 ·rcases List.mem_append.1 hp with hp | hp
  ·refine c.mono (c.stable (hrow.2.1 p hp) (fun x hx _ => hsame x (by have := hx.1; omega) (by have := hx.2.1; omega) hx.2.2) hsz) (fun x hx => ⟨hx.1, by have := hx.2.1; omega, hg x (by have := hx.2.1; omega) hx.2.2⟩)
  ·obtain rfl := List.mem_singleton.1 hp
   have hvx : ∀ x, W.heap.size ≤ x → vt.ownBlock ≠ some x := fun x h1 e => by have := hv x e; omega
   refine c.mono (c.stable hel (fun x hx _ => hsame x (by have := hx.1; omega) hx.2 (hvx x hx.1)) hsz) (fun x hx => ⟨by have := hx.1; omega, by have := hx.2; omega, hg x hx.2 (hvx x hx.1)⟩)
theorem all_more {m : Nat} {r : List Tok} (h : r ≠ []) {β : Type} (g : List Cmd → List Tok → PR β) : bnd (allP (m + 1) r) g = bnd (commandP (r.length + 1) 0 r) fun c q => bnd (allP m q) fun cs q2 => g (c :: cs) q2 := by
 rw [allP, if_neg h]
 show bnd (bnd (commandP (r.length + 1) 0 r) _) g = _
 rw [bnd_assoc]
 cases commandP (r.length + 1) 0 r with
 | error p => rfl
 | ok p =>
  show bnd (bnd (allP m p.2) _) g = bnd (allP m p.2) _
  rw [bnd_assoc]; rfl
theorem ParseP.all {l : List Tok} {w V : World} {R b : Nat} {vt : Value} {ps : Held Cmd} (hz : wholeS l = (ps.map Prod.fst, 0, 0)) (hrow : ORow (cCmd (l.length + 8)) 160 V (b + 1) (DmB (b + 1) V vt) vt ps) (hb : Below w.heap.size w V) (hR : w.heap.size ≤ R) (hRb : R + 2 < b) :
    ParseP l w (.returned (.tuple #[vt, .int .i64 0, .int .i64 0])) (set3 V R vt 0 0) := by
 unfold ParseP
 rw [hz]
 refine ⟨vt, rfl, ?_, set3_below hb hR _ _ _⟩
 have hs := ORow.sat (F := fun x => b < x) hrow (fun x hx => hx) (fun x hx => hx.1)
 exact (hs.stable (fun x hx _ => set3_same _ _ _ _ _ x (.inr (by have : b < x := hx; omega))) (by rw [set3_size]; exact Nat.le_refl _)).mono (fun x hx => by have : b < x := hx; omega)
theorem share2 {p q : Prop} (h : (True → p) → q) (hp : p) : q := h fun _ => hp
theorem new_cmd (V : World) {s : Nat} (h : s ≤ V.heap.size) : ∃ X, X = V.heap.size ∧ Below V.heap.size V (V.alloc (.cells #[.int .i64 0, .slice none 0 0, .int .i64 0, .int .i64 0, .int .i64 0, .slice none 0 0, .slice none 0 0, .bool false, .int .i64 0, .slice none 0 0, .slice none 0 0, .slice none 0 0] 160)) ∧ Has (V.alloc (.cells #[.int .i64 0, .slice none 0 0, .int .i64 0, .int .i64 0, .int .i64 0, .slice none 0 0, .slice none 0 0, .bool false, .int .i64 0, .slice none 0 0, .slice none 0 0, .slice none 0 0] 160)) X [.int .i64 0, .slice none 0 0, .int .i64 0, .int .i64 0, .int .i64 0, .slice none 0 0, .slice none 0 0, .bool false, .int .i64 0, .slice none 0 0, .slice none 0 0, .slice none 0 0] ∧ s ≤ X := ⟨_, rfl, ba (Below.refl V.heap.size V) _, Has.alloc V _ _, h⟩
theorem parse_any (all : List Tok) (v : Value) (F : Dom) (w : World) (hs : SAt cTok w F v all) (hF : ∀ x, F x → x < w.heap.size) (hTab : Tabs w w.heap.size) (htx : ∀ t ∈ all, t.kind = 1 ∨ t.kind = 2 → t.text.length ≤ 4611686018427387904) :
    Calls Tryz.prog 45 #[v] w (ParseP all w) := by
 obtain ⟨G, cap, rfl, -⟩ := hs.form
 have HS := Lib.hid hs; have HF := Lib.hid hF; have HTAB := Lib.hid hTab; have HTX := Lib.hid htx
 clear hs hF hTab htx
 go_enter_defers Tryz.func45, Tryz.ntmps45
 go_upto_region 1 with fail
 obtain ⟨R, hR⟩ : ∃ R, R = w.heap.size := ⟨_, rfl⟩
 have hW0 : PR3 (((w.alloc (.cells #[.slice none 0 0] 90)).alloc (.cells #[.int .i64 0] 3)).alloc (.cells #[.int .i64 0] 45)) R (.slice none 0 0) 0 0 := by
  obtain ⟨w1, hw1⟩ : ∃ w1, w1 = w.alloc (.cells #[.slice none 0 0] 90) := ⟨_, rfl⟩
  obtain ⟨w2, hw2⟩ : ∃ w2, w2 = w1.alloc (.cells #[.int .i64 0] 3) := ⟨_, rfl⟩
  have h0 : Has w1 R [.slice none 0 0] := by rw [hw1, hR]; exact Has.alloc w _ _
  have z1 : w1.heap.size = R + 1 := by rw [hw1, hR]; simp
  have h1 : Has w2 (R + 1) [.int .i64 0] := by rw [hw2, ← z1]; exact Has.alloc w1 _ _
  have z2 : w2.heap.size = R + 2 := by rw [hw2]; simp [z1]
  have h2 : Has (w2.alloc (.cells #[.int .i64 0] 45)) (R + 2) [.int .i64 0] := by rw [← z2]; exact Has.alloc w2 _ _
  have b1 : Below w1.heap.size w1 w2 := by rw [hw2]; exact ba (Below.refl _ _) _
  have b2 := ba (Below.refl w2.heap.size w2) (.cells #[.int .i64 0] 45)
  rw [← hw1, ← hw2]
  have h0' := (h0.down b1).down b2
  have h1' := h1.down b2
  exact ⟨h0'.1 0 _ rfl, h1'.1 0 _ rfl, h2.1 0 _ rfl, h0'.2.1 0 (by simp), h1'.2.1 0 (by simp), h2.2.1 0 (by simp)⟩
 have hB0 : Below w.heap.size w (((w.alloc (.cells #[.slice none 0 0] 90)).alloc (.cells #[.int .i64 0] 3)).alloc (.cells #[.int .i64 0] 45)) := ba (ba (ba (Below.refl _ w) _) _) _
 rw [show w.heap.size = R from hR.symm]
 refine wpAt (R := fun V => PR3 V R (.slice none 0 0) 0 0 ∧ Below w.heap.size w V) ⟨hW0, hB0⟩ (fun W hW => ?_)
 have HW := Lib.hid hW; have HR := Lib.hid hR
 clear hW0 hB0 hW hR
 obtain ⟨Rz, hRz⟩ : ∃ Rz, Rz = wholeS all := ⟨_, rfl⟩
 have HZ := Lib.hid hRz
 clear hRz
 by_cases hn : 400 < all.length
 ·have hd : decide ((400 : Int) < (all.length : Int)) = true := decide_eq_true (by omega)
  have HZ1 : Hid (wholeS all = ([], 0, 5)) := by unfold Hid wholeS; exact if_pos hn
  obtain ⟨⟨r0, r1, r2, f0, f1, f2⟩, -⟩ := id HW.out
  clear hn
  go_wp2_with fail
  exact ⟨_, Knows.res ⟨rfl, rfl, rfl⟩ (HW.out.1.set3 (.slice none 0 0) 0 5), ParseP.none HZ1.out (set3_below HW.out.2 (by rw [HR.out]; exact Nat.le_refl _) _ _ _)⟩
 ·have hd : decide ((400 : Int) < (all.length : Int)) = false := decide_eq_false (by omega)
  have HZ1 : Hid (wholeS all = match chkS 0 all with
   | some (j, c) => ([], j, c)
   | none => parseS all) := by unfold Hid wholeS; exact if_neg hn
  have hn4 : all.length ≤ 400 := by omega
  clear hn
  go_wp2_with fail
  go_loopw [14] (fun vo wr => ∃ j : Nat, vo = .int .i64 j ∧ j ≤ all.length ∧ PR3 wr R (.slice none 0 0) 0 0 ∧ Hid (chkS 0 all = chkS j (all.drop j)) ∧ Below w.heap.size w wr) (fun vo _ => all.length - (intOf vo).toNat)
  case atStart => exact ⟨0, rfl, Nat.zero_le _, HW.out.1, rfl, HW.out.2⟩
  case round =>
   obtain ⟨j, rfl, hj, hp, HC, hb⟩ := hrel
   have HP := Lib.hid hp; have HB := Lib.hid hb
   clear hp hb
   by_cases hlt : j < all.length
   ·obtain ⟨g, off, vs, rfl, hgF, hgl, hv, hc⟩ := HS.out.get j hlt
    obtain rfl : vs = tokC all[j] := hv
    have e0 : wr.cell? ⟨g, off + j * 3, none⟩ = some (.int .i64 all[j].kind) := moved (hc 0 _ rfl) HB.out (Nat.le_refl _)
    have e1 : wr.cell? ⟨g, off + j * 3 + 1, none⟩ = some (.string ⟨all[j].text.toArray⟩) := moved (hc 1 _ rfl) HB.out (Nat.le_refl _)
    have e2 : wr.cell? ⟨g, off + j * 3 + 2, none⟩ = some (.int .i64 all[j].num) := moved (hc 2 _ rfl) HB.out (Nat.le_refl _)
    have hst := chk_step hlt
    have htl := HTX.out _ (List.getElem_mem hlt)
    generalize all[j] = t at e0 e1 e2 hst htl
    have HCK : Hid (∀ V, Calls Tryz.prog 73 #[.agg #[.int .i64 t.kind, .string ⟨t.text.toArray⟩, .int .i64 t.num]] V fun e w' => e = .returned (.int .i64 (Tk.checkT t)) ∧ Below V.heap.size V w') := fun V => by
     have := Tk2.check_any t.kind t.num ⟨t.text.toArray⟩ V (fun h => by show t.text.toArray.size ≤ _; rw [List.size_toArray]; exact htl h)
     exact this
    have hin : decide ((j : Int) < (all.length : Int)) = true := decide_eq_true (by omega)
    clear hc hgl hgF htl
    go_upto_region 6 with fail
    obtain ⟨N, hN⟩ : ∃ N, N = wr.heap.size := ⟨_, rfl⟩
    have hB := ba (Below.refl wr.heap.size wr) (.cells #[.int .i64 t.kind, .string ⟨t.text.toArray⟩, .int .i64 t.num] 147)
    have hH := Has.alloc wr [.int .i64 t.kind, .string ⟨t.text.toArray⟩, .int .i64 t.num] 147
    rw [← hN] at hH
    rw [show wr.heap.size = N from hN.symm]
    refine wpAt (R := fun V => PR3 V R (.slice none 0 0) 0 0 ∧ Below w.heap.size w V ∧ Has V N [.int .i64 t.kind, .string ⟨t.text.toArray⟩, .int .i64 t.num]) ⟨HP.out.down hB, bt HB.out hB, hH⟩ (fun V hV => ?_)
    clear hB hH hN e0 e1 e2
    obtain ⟨hp, hb, hh⟩ := hV
    have HP2 := Lib.hid hp; have HB2 := Lib.hid hb
    have e0 := hh.1 0 _ rfl; have e1 := hh.1 1 _ rfl; have e2 := hh.1 2 _ rfl
    clear hp hb hh
    by_cases hck : Tk.checkT t = 0
    ·have hcq : (Tk.checkT t == 0) = true := by rw [hck]; rfl
     rw [if_pos hck] at hst
     have HST : Hid (chkS 0 all = chkS (j + 1) (all.drop (j + 1))) := by unfold Hid; rw [HC.out, hst]
     generalize Tk.checkT t = c at HCK hck hcq
     have hcn : (c != 0) = false := by rw [bne, hcq]; rfl
     clear hst hck
     go_wp2_with fail
     refine (HCK.out _).mono ?_
     rintro e w5 ⟨rfl, hb5⟩
     have HP5 := Lib.hid (HP2.out.down hb5); have HB5 := Lib.hid (bt HB2.out hb5)
     clear hb5 e0 e1 e2
     go_wp2_with fail
     go_roundw
     case rel => exact ⟨j + 1, rfl, hlt, HP5.out, HST.out, HB5.out⟩
     case measure => simp [intOf]; omega
    ·have hcq : (Tk.checkT t == 0) = false := beq_eq_false_iff_ne.2 hck
     rw [if_neg hck] at hst
     have HST : Hid (wholeS all = ([], j, Tk.checkT t)) := by unfold Hid; rw [HZ1.out, HC.out, hst]
     generalize Tk.checkT t = c at HCK hck hcq HST
     have hcn : (c != 0) = true := by rw [bne, hcq]; rfl
     clear hst hck
     go_wp2_with fail
     refine (HCK.out _).mono ?_
     rintro e w5 ⟨rfl, hb5⟩
     have hp5 := HP2.out.down hb5
     have HP5 := Lib.hid hp5; have HB5 := Lib.hid (bt HB2.out hb5)
     obtain ⟨r0, r1, r2, f0, f1, f2⟩ := hp5
     clear hb5 e0 e1 e2
     go_wp2_with fail
     exact ⟨_, Knows.res ⟨rfl, rfl, rfl⟩ (HP5.out.set3 (.slice none 0 0) j c), ParseP.none HST.out (set3_below HB5.out (by rw [HR.out]; exact Nat.le_refl _) _ _ _)⟩
   ·obtain rfl : j = all.length := by omega
    have HZ2 : Hid (wholeS all = parseS all) := by unfold Hid; rw [HZ1.out, HC.out, List.drop_length]; rfl
    have hin : decide ((all.length : Int) < (all.length : Int)) = false := decide_eq_false (by omega)
    obtain ⟨b, hbe⟩ : ∃ b, b = wr.heap.size := ⟨_, rfl⟩
    have hB := ba (Below.refl wr.heap.size wr) (.cells #[.slice G all.length cap, .int .i64 0] 155)
    have hH := Has.alloc wr [.slice G all.length cap, .int .i64 0] 155
    rw [← hbe] at hH
    have hRb : R + 2 < b := by rw [hbe]; exact HP.out.lt
    have hwR : w.heap.size ≤ R := by rw [HR.out]; exact Nat.le_refl _
    have hb0 := bt HB.out hB
    have hrl : RL (wr.alloc (.cells #[.slice G all.length cap, .int .i64 0] 155)) b (.slice G all.length cap) F all all :=
     ⟨0, TLeft.start all, hH.1 0 _ rfl, hH.1 1 _ rfl, hH.2.1 1 (by simp), hH.2.2, (HS.out.stable (fun x hx _ => hb0.block x (HF.out x hx)) hb0.size), fun x hx => by have := HF.out x hx; omega⟩
    have hq0 : Q1 w (wr.alloc (.cells #[.slice G all.length cap, .int .i64 0] 155)) (wr.alloc (.cells #[.slice G all.length cap, .int .i64 0] 155)) b R (all.length + 8) (.slice G all.length cap) F all all (.slice none 0 0) [] :=
     ⟨hrl, HP.out.down hB, ORow.nil _ _ _ _ _, hb0, hRb, hwR, HF.out, Nat.le_refl _⟩
    have HQ0 := Lib.hid hq0; have HBE := Lib.hid hbe
    obtain ⟨i0, hi, hz0, hz1, hz2⟩ := info_three info_cmd
    have HI0 := Lib.hid hi; have HZ0 := Lib.hid hz0; have HZ1' := Lib.hid hz1; have HZ2' := Lib.hid hz2
    have HCC : Hid (∀ (V : World) (q : List Tok), RL V b (.slice G all.length cap) F all q → Below w.heap.size w V → Calls Tryz.prog 75 #[.pointer (some ⟨b, 0, none⟩), .int .i64 0] V (Ans (CmdR (all.length + 8) V.heap.size) b (.slice G all.length cap) F all V (commandP (q.length + 1) 0 q))) := fun V q h1 h2 => by
     refine ((both_every (q.length + 1)).1 0 0 b _ F all q V rfl (by omega) (by omega) h1 ((HTAB.out.below h2).up (by omega)) (Nat.lt_succ_self _)).mono ?_
     intro e w' h
     have hql := h1.len
     exact h.mono (fun a ⟨vs, he, hr⟩ => ⟨vs, he, cmd_le (by omega) hr⟩)
    clear hB hH hb0 hrl hq0 hi hz0 hz1 hz2 hlt HC HZ1 hbe hd
    go_wp2_with fail
    rw [show wr.heap.size = b from HBE.out.symm]
    go_loopw [30] (fun _ wx => ∃ (Gt : Option Addr) (ct : Nat) (ps : Held Cmd) (rr : List Tok) (mm : Nat), Q1 w wx wx b R (all.length + 8) (.slice G all.length cap) F all rr (.slice Gt ps.length ct) ps ∧ rr.length < mm ∧ ps.length + rr.length ≤ all.length ∧ Hid (allP (all.length + 1) all = bnd (allP mm rr) fun cs q => .ok (ps.map Prod.fst ++ cs, q))) (fun _ wx => all.length - posT wx b)
    case atStart => exact ⟨none, 0, [], all, all.length + 1, HQ0.out, Nat.lt_succ_self _, by show 0 + _ ≤ _; omega, by unfold Hid; cases allP (all.length + 1) all <;> rfl⟩
    case round =>
     obtain ⟨Gt, ct, ps, rr, mm, hq, hmm, hpr, HQ⟩ := hrel
     obtain ⟨mm', rfl⟩ : ∃ mm', mm = mm' + 1 := ⟨mm - 1, by omega⟩
     have HQ1 := Lib.hid hq
     obtain ⟨n, hn1, hrt⟩ := id hq.rd
     have c1 := hrt.c1
     have hnl := hn1.1
     by_cases hrr : rr = []
     ·subst hrr
      have hin2 : decide (n < all.length) = false := decide_eq_false (by simp at hnl; omega)
      have hin3 : decide ((n : Int) < (all.length : Int)) = false := decide_eq_false (by simp at hnl; omega)
      have HZ3 : Hid (wholeS all = (ps.map Prod.fst, 0, 0)) := by
       unfold Hid; rw [HZ2.out]; unfold parseS; rw [HQ.out, allP, if_pos rfl]
       show parseE _ (.ok (ps.map Prod.fst ++ [], [])) = _
       rw [List.append_nil]; rfl
      obtain ⟨r0, r1, r2, f0, f1, f2⟩ := id hq.pr
      clear hq hn1 hrt hnl HQ HQ0
      go_wp2_with fail
      exact leave_ret ⟨rfl, rfl, rfl⟩ (HQ1.out.pr.set3 _ 0 0) (ParseP.all HZ3.out HQ1.out.row HQ1.out.bw HQ1.out.wR HQ1.out.Rb)
     ·have hlr : 0 < rr.length := List.length_pos_iff.2 hrr
      have hin2 : decide (n < all.length) = true := decide_eq_true (by omega)
      have hin3 : decide ((n : Int) < (all.length : Int)) = true := decide_eq_true (by omega)
      have HQ2 := Lib.hid HQ.out
      rw [all_more hrr] at HQ2
      have HC : Hid (∀ V, RL V b (.slice G all.length cap) F all rr → Below w.heap.size w V → Calls Tryz.prog 75 #[.pointer (some ⟨b, 0, none⟩), .int .i64 0] V (Ans (CmdR (all.length + 8) V.heap.size) b (.slice G all.length cap) F all V (commandP (rr.length + 1) 0 rr))) := fun V h1 h2 => HCC.out V rr h1 h2
      have HVW : Hid (∀ x, (Value.slice Gt ps.length ct).ownBlock = some x → x < wr.heap.size) := fun x e => (hq.row.1.lt x e).2
      have HPL : Hid ((hcells ps).length = ps.length * 12) := hq.row.1.1
      have HW1 : Hid (b + 1 ≤ wr.heap.size) := hq.rd.lt
      have hls := less_command (rr.length + 1) 0 rr
      clear hq hn1 hrt HQ HQ0 HCC
      go_upto_region 13 with fail
      refine wp_region_panicD R (fun ch w' => ∃ kk c, Hid (commandP (rr.length + 1) 0 rr = .error (kk, c)) ∧ ch = wrongC all kk c ∧ (∃ vt', PR3 w' R vt' 0 0) ∧ Below w.heap.size w w') (fun ch a w' hd hk h => ?_) ?_
      ·obtain ⟨kk, c, hx, rfl, ⟨vt', hp'⟩, hb'⟩ := h
       have HZX : wholeS all = ([], all.length - kk, c) := by rw [HZ2.out]; unfold parseS; rw [HQ2.out, hx.out]; rfl
       show Leaves _ _ _ _ _ _ _
       rw [hd]
       exact leave_panic hk hp' (fun V hV => ParseP.none HZX (set3_below (bt hb' hV) (by rw [HR.out]; exact Nat.le_refl _) _ _ _))
      refine wp_region_any (by kernel_rfl) ?_
      refine tkA 1 ix1 ?_ (hQ := by intro _ _ _ h; exact PanicD.put (by decide) h)
      apply share2
      ·intro FIN
       refine any_at (R := fun V => Q1 w wr V b R (all.length + 8) (.slice G all.length cap) F all rr (.slice Gt ps.length ct) ps) (HQ1.out.down (Below.drew (Below.refl _ _))) (fun V0 hV => ?_)
       refine rdA [0, 2, 4] ?_
       refine .cons ix0 (fun K hK => ?_) ?_
       ·have e7' := hV.pr.c0
        go_simp
        clear e7'
        refine hK _ _ ?_
        clear hK K
        try simp only [aQ]
        refine tkA 3 ix3 ?_ (hQ := by intro _ _ _ h; exact PanicD.put (by decide) h)
        refine rdA [2, 4] ?_
        refine .cons ix2 (fun K hK => ?_) ?_
        ·go_simp
         go_at_call 75
         refine ((HC.out _ hV.rd hV.bw).mono ?_)
         intro e w5 hp
         rcases hp.split with ⟨kk, c, ch, hx, rfl, HCH, g5⟩ | ⟨t, r5, hx, ⟨vs, rfl, hrep⟩, hr5, g5⟩
         ·have PRX : Hid (PR3 w5 R (.slice Gt ps.length ct) 0 0 ∧ Below w.heap.size w w5) := ⟨hV.pr.grown g5 (fun x e => by obtain rfl : b = x := Option.some.inj e; exact hV.Rb), below_gr hV.bw g5 (by have := hV.Rb; have := hV.wR; omega)⟩
          have HX := Lib.hid hx
          clear g5 hp hx
          go_wp2_with fail
          exact ⟨⟨rfl, rfl, rfl, rfl⟩, _, _, HX, HCH.out, ⟨_, PRX.out.1⟩, PRX.out.2⟩
         have HX := Lib.hid hx
         obtain ⟨k9, G0, n0, c0', k1, m1, p1, G1, n1, c1', G2, n2, c2', o1, l1, G3, n3, c3', G4, n4, c4', G5, n5, c5', rfl⟩ := cmd_form12 hrep
         have hE0 : ElC wr w5 (all.length + 8) t [.int .i64 k9, .slice G0 n0 c0', .int .i64 k1, .int .i64 m1, .int .i64 p1, .slice G1 n1 c1', .slice G2 n2 c2', .bool o1, .int .i64 l1, .slice G3 n3 c3', .slice G4 n4 c4', .slice G5 n5 c5'] := (cCmd (all.length + 8)).mono (cmd_bd _ hrep) (fun x hx => ⟨Nat.le_trans hV.sz hx.1, hx.2⟩)
         have hV5 := hV.next hr5 g5
         clear hrep hr5 hx hp
         go_wp2_with fail
         try simp only [aQ]
         refine any_at (R := fun V => Q1 w wr V b R (all.length + 8) (.slice G all.length cap) F all r5 (.slice Gt ps.length ct) ps ∧ ElC wr V (all.length + 8) t [.int .i64 k9, .slice G0 n0 c0', .int .i64 k1, .int .i64 m1, .int .i64 p1, .slice G1 n1 c1', .slice G2 n2 c2', .bool o1, .int .i64 l1, .slice G3 n3 c3', .slice G4 n4 c4', .slice G5 n5 c5']) ⟨hV5, hE0⟩ (fun V2 hV' => ?_)
         clear hV hV5 hE0 g5
         obtain ⟨hV, hE⟩ := hV'
         refine rdA [4] ?_
         refine .cons ix4 (fun K hK => ?_) ?_
         ·go_simp
          refine hK _ _ ?_
          clear hK K
          try simp only [aQ]
          obtain ⟨X, hXe, hal, hX0⟩ := new_cmd V2 hV.sz
          rw [← hXe]
          refine any_at (R := fun V => Q1 w wr V b R (all.length + 8) (.slice G all.length cap) F all r5 (.slice Gt ps.length ct) ps ∧ ElC wr V (all.length + 8) t [.int .i64 k9, .slice G0 n0 c0', .int .i64 k1, .int .i64 m1, .int .i64 p1, .slice G1 n1 c1', .slice G2 n2 c2', .bool o1, .int .i64 l1, .slice G3 n3 c3', .slice G4 n4 c4', .slice G5 n5 c5'] ∧ Has V X [.int .i64 0, .slice none 0 0, .int .i64 0, .int .i64 0, .int .i64 0, .slice none 0 0, .slice none 0 0, .bool false, .int .i64 0, .slice none 0 0, .slice none 0 0, .slice none 0 0] ∧ wr.heap.size ≤ X) ⟨hV.down hal, hE.down hal, hX0⟩ (fun V3 hV' => ?_)
          clear hal hX0 hXe hV hE
          obtain ⟨hV, hE, hX, hXW⟩ := hV'
          refine lsA #[true, true, true, true, true, false, false, false, false] ?_
          revert HX hV hE hX hXW
          revert t r5 k9 G0 n0 c0' k1 m1 p1 G1 n1 c1' G2 n2 c2' o1 l1 G3 n3 c3' G4 n4 c4' G5 n5 c5' X V3
          exact FIN trivial
         exact .nil
        refine .cons ix4 (fun K hK => ?_) ?_
        ·go_simp
         refine hK _ _ ?_
         clear hK K
         try simp only [aQ]
         obtain ⟨X, hXe, hal, hX0⟩ := new_cmd V0 hV.sz
         rw [← hXe]
         refine any_at (R := fun V => Q1 w wr V b R (all.length + 8) (.slice G all.length cap) F all rr (.slice Gt ps.length ct) ps ∧ Has V X [.int .i64 0, .slice none 0 0, .int .i64 0, .int .i64 0, .int .i64 0, .slice none 0 0, .slice none 0 0, .bool false, .int .i64 0, .slice none 0 0, .slice none 0 0, .slice none 0 0] ∧ wr.heap.size ≤ X) ⟨hV.down hal, hX0⟩ (fun V4 hV' => ?_)
         clear hal hX0 hXe hV
         obtain ⟨hV, hX, hXW⟩ := hV'
         refine rdA [2] ?_
         refine .cons ix2 (fun K hK => ?_) ?_
         ·go_simp
          go_at_call 75
          refine ((HC.out _ hV.rd hV.bw).mono ?_)
          intro e w5 hp
          rcases hp.split with ⟨kk, c, ch, hx, rfl, HCH, g5⟩ | ⟨t, r5, hx, ⟨vs, rfl, hrep⟩, hr5, g5⟩
          ·have PRX : Hid (PR3 w5 R (.slice Gt ps.length ct) 0 0 ∧ Below w.heap.size w w5) := ⟨hV.pr.grown g5 (fun x e => by obtain rfl : b = x := Option.some.inj e; exact hV.Rb), below_gr hV.bw g5 (by have := hV.Rb; have := hV.wR; omega)⟩
           have HX := Lib.hid hx
           clear g5 hp hx
           go_wp2_with fail
           exact ⟨⟨rfl, rfl, rfl, rfl⟩, _, _, HX, HCH.out, ⟨_, PRX.out.1⟩, PRX.out.2⟩
          have HX := Lib.hid hx
          obtain ⟨k9, G0, n0, c0', k1, m1, p1, G1, n1, c1', G2, n2, c2', o1, l1, G3, n3, c3', G4, n4, c4', G5, n5, c5', rfl⟩ := cmd_form12 hrep
          have hE0 : ElC wr w5 (all.length + 8) t [.int .i64 k9, .slice G0 n0 c0', .int .i64 k1, .int .i64 m1, .int .i64 p1, .slice G1 n1 c1', .slice G2 n2 c2', .bool o1, .int .i64 l1, .slice G3 n3 c3', .slice G4 n4 c4', .slice G5 n5 c5'] := (cCmd (all.length + 8)).mono (cmd_bd _ hrep) (fun x hx => ⟨Nat.le_trans hV.sz hx.1, hx.2⟩)
          have hV5 := hV.next hr5 g5
          have hX5 := hX.kept g5 (fun e => by have := Option.some.inj e; have := HW1.out; omega)
          clear hrep hr5 hx hp
          go_wp2_with fail
          try simp only [aQ]
          refine any_at (R := fun V => Q1 w wr V b R (all.length + 8) (.slice G all.length cap) F all r5 (.slice Gt ps.length ct) ps ∧ ElC wr V (all.length + 8) t [.int .i64 k9, .slice G0 n0 c0', .int .i64 k1, .int .i64 m1, .int .i64 p1, .slice G1 n1 c1', .slice G2 n2 c2', .bool o1, .int .i64 l1, .slice G3 n3 c3', .slice G4 n4 c4', .slice G5 n5 c5'] ∧ Has V X [.int .i64 0, .slice none 0 0, .int .i64 0, .int .i64 0, .int .i64 0, .slice none 0 0, .slice none 0 0, .bool false, .int .i64 0, .slice none 0 0, .slice none 0 0, .slice none 0 0] ∧ wr.heap.size ≤ X) ⟨hV5, hE0, hX5, hXW⟩ (fun V5 hV' => ?_)
          clear hV hV5 hE0 g5 hX hX5 hXW
          obtain ⟨hV, hE, hX, hXW⟩ := hV'
          refine lsA #[true, true, true, true, true, false, false, false, false] ?_
          apply FIN trivial <;> assumption
         exact .nil
        exact .nil
       refine .cons ix2 (fun K hK => ?_) ?_
       ·go_simp
        go_at_call 75
        refine ((HC.out _ hV.rd hV.bw).mono ?_)
        intro e w5 hp
        rcases hp.split with ⟨kk, c, ch, hx, rfl, HCH, g5⟩ | ⟨t, r5, hx, ⟨vs, rfl, hrep⟩, hr5, g5⟩
        ·have PRX : Hid (PR3 w5 R (.slice Gt ps.length ct) 0 0 ∧ Below w.heap.size w w5) := ⟨hV.pr.grown g5 (fun x e => by obtain rfl : b = x := Option.some.inj e; exact hV.Rb), below_gr hV.bw g5 (by have := hV.Rb; have := hV.wR; omega)⟩
         have HX := Lib.hid hx
         clear g5 hp hx
         go_wp2_with fail
         exact ⟨⟨rfl, rfl, rfl, rfl⟩, _, _, HX, HCH.out, ⟨_, PRX.out.1⟩, PRX.out.2⟩
        have HX := Lib.hid hx
        obtain ⟨k9, G0, n0, c0', k1, m1, p1, G1, n1, c1', G2, n2, c2', o1, l1, G3, n3, c3', G4, n4, c4', G5, n5, c5', rfl⟩ := cmd_form12 hrep
        have hE0 : ElC wr w5 (all.length + 8) t [.int .i64 k9, .slice G0 n0 c0', .int .i64 k1, .int .i64 m1, .int .i64 p1, .slice G1 n1 c1', .slice G2 n2 c2', .bool o1, .int .i64 l1, .slice G3 n3 c3', .slice G4 n4 c4', .slice G5 n5 c5'] := (cCmd (all.length + 8)).mono (cmd_bd _ hrep) (fun x hx => ⟨Nat.le_trans hV.sz hx.1, hx.2⟩)
        have hV5 := hV.next hr5 g5
        clear hrep hr5 hx hp
        go_wp2_with fail
        try simp only [aQ]
        refine any_at (R := fun V => Q1 w wr V b R (all.length + 8) (.slice G all.length cap) F all r5 (.slice Gt ps.length ct) ps ∧ ElC wr V (all.length + 8) t [.int .i64 k9, .slice G0 n0 c0', .int .i64 k1, .int .i64 m1, .int .i64 p1, .slice G1 n1 c1', .slice G2 n2 c2', .bool o1, .int .i64 l1, .slice G3 n3 c3', .slice G4 n4 c4', .slice G5 n5 c5']) ⟨hV5, hE0⟩ (fun V6 hV' => ?_)
        clear hV hV5 hE0 g5
        obtain ⟨hV, hE⟩ := hV'
        refine rdA [0, 4] ?_
        refine .cons ix0 (fun K hK => ?_) ?_
        ·have e7' := hV.pr.c0
         go_simp
         clear e7'
         refine hK _ _ ?_
         clear hK K
         try simp only [aQ]
         refine tkA 3 ix3 ?_ (hQ := by intro _ _ _ h; exact PanicD.put (by decide) h)
         refine rdA [4] ?_
         refine .cons ix4 (fun K hK => ?_) ?_
         ·go_simp
          refine hK _ _ ?_
          clear hK K
          try simp only [aQ]
          obtain ⟨X, hXe, hal, hX0⟩ := new_cmd V6 hV.sz
          rw [← hXe]
          refine any_at (R := fun V => Q1 w wr V b R (all.length + 8) (.slice G all.length cap) F all r5 (.slice Gt ps.length ct) ps ∧ ElC wr V (all.length + 8) t [.int .i64 k9, .slice G0 n0 c0', .int .i64 k1, .int .i64 m1, .int .i64 p1, .slice G1 n1 c1', .slice G2 n2 c2', .bool o1, .int .i64 l1, .slice G3 n3 c3', .slice G4 n4 c4', .slice G5 n5 c5'] ∧ Has V X [.int .i64 0, .slice none 0 0, .int .i64 0, .int .i64 0, .int .i64 0, .slice none 0 0, .slice none 0 0, .bool false, .int .i64 0, .slice none 0 0, .slice none 0 0, .slice none 0 0] ∧ wr.heap.size ≤ X) ⟨hV.down hal, hE.down hal, hX0⟩ (fun V8 hV' => ?_)
          clear hal hX0 hXe hV hE
          obtain ⟨hV, hE, hX, hXW⟩ := hV'
          refine lsA #[true, true, true, true, true, false, false, false, false] ?_
          apply FIN trivial <;> assumption
         exact .nil
        refine .cons ix4 (fun K hK => ?_) ?_
        ·go_simp
         refine hK _ _ ?_
         clear hK K
         try simp only [aQ]
         obtain ⟨X, hXe, hal, hX0⟩ := new_cmd V6 hV.sz
         rw [← hXe]
         refine any_at (R := fun V => Q1 w wr V b R (all.length + 8) (.slice G all.length cap) F all r5 (.slice Gt ps.length ct) ps ∧ ElC wr V (all.length + 8) t [.int .i64 k9, .slice G0 n0 c0', .int .i64 k1, .int .i64 m1, .int .i64 p1, .slice G1 n1 c1', .slice G2 n2 c2', .bool o1, .int .i64 l1, .slice G3 n3 c3', .slice G4 n4 c4', .slice G5 n5 c5'] ∧ Has V X [.int .i64 0, .slice none 0 0, .int .i64 0, .int .i64 0, .int .i64 0, .slice none 0 0, .slice none 0 0, .bool false, .int .i64 0, .slice none 0 0, .slice none 0 0, .slice none 0 0] ∧ wr.heap.size ≤ X) ⟨hV.down hal, hE.down hal, hX0⟩ (fun V9 hV' => ?_)
         clear hal hX0 hXe hV hE
         obtain ⟨hV, hE, hX, hXW⟩ := hV'
         refine rdA [0] ?_
         refine .cons ix0 (fun K hK => ?_) ?_
         ·have e7' := hV.pr.c0
          go_simp
          clear e7'
          refine hK _ _ ?_
          clear hK K
          try simp only [aQ]
          refine tkA 3 ix3 ?_ (hQ := by intro _ _ _ h; exact PanicD.put (by decide) h)
          refine lsA #[true, true, true, true, true, false, false, false, false] ?_
          apply FIN trivial <;> assumption
         exact .nil
        exact .nil
       refine .cons ix4 (fun K hK => ?_) ?_
       ·go_simp
        refine hK _ _ ?_
        clear hK K
        try simp only [aQ]
        obtain ⟨X, hXe, hal, hX0⟩ := new_cmd V0 hV.sz
        rw [← hXe]
        refine any_at (R := fun V => Q1 w wr V b R (all.length + 8) (.slice G all.length cap) F all rr (.slice Gt ps.length ct) ps ∧ Has V X [.int .i64 0, .slice none 0 0, .int .i64 0, .int .i64 0, .int .i64 0, .slice none 0 0, .slice none 0 0, .bool false, .int .i64 0, .slice none 0 0, .slice none 0 0, .slice none 0 0] ∧ wr.heap.size ≤ X) ⟨hV.down hal, hX0⟩ (fun V11 hV' => ?_)
        clear hal hX0 hXe hV
        obtain ⟨hV, hX, hXW⟩ := hV'
        refine rdA [0, 2] ?_
        refine .cons ix0 (fun K hK => ?_) ?_
        ·have e7' := hV.pr.c0
         go_simp
         clear e7'
         refine hK _ _ ?_
         clear hK K
         try simp only [aQ]
         refine tkA 3 ix3 ?_ (hQ := by intro _ _ _ h; exact PanicD.put (by decide) h)
         refine rdA [2] ?_
         refine .cons ix2 (fun K hK => ?_) ?_
         ·go_simp
          go_at_call 75
          refine ((HC.out _ hV.rd hV.bw).mono ?_)
          intro e w5 hp
          rcases hp.split with ⟨kk, c, ch, hx, rfl, HCH, g5⟩ | ⟨t, r5, hx, ⟨vs, rfl, hrep⟩, hr5, g5⟩
          ·have PRX : Hid (PR3 w5 R (.slice Gt ps.length ct) 0 0 ∧ Below w.heap.size w w5) := ⟨hV.pr.grown g5 (fun x e => by obtain rfl : b = x := Option.some.inj e; exact hV.Rb), below_gr hV.bw g5 (by have := hV.Rb; have := hV.wR; omega)⟩
           have HX := Lib.hid hx
           clear g5 hp hx
           go_wp2_with fail
           exact ⟨⟨rfl, rfl, rfl, rfl⟩, _, _, HX, HCH.out, ⟨_, PRX.out.1⟩, PRX.out.2⟩
          have HX := Lib.hid hx
          obtain ⟨k9, G0, n0, c0', k1, m1, p1, G1, n1, c1', G2, n2, c2', o1, l1, G3, n3, c3', G4, n4, c4', G5, n5, c5', rfl⟩ := cmd_form12 hrep
          have hE0 : ElC wr w5 (all.length + 8) t [.int .i64 k9, .slice G0 n0 c0', .int .i64 k1, .int .i64 m1, .int .i64 p1, .slice G1 n1 c1', .slice G2 n2 c2', .bool o1, .int .i64 l1, .slice G3 n3 c3', .slice G4 n4 c4', .slice G5 n5 c5'] := (cCmd (all.length + 8)).mono (cmd_bd _ hrep) (fun x hx => ⟨Nat.le_trans hV.sz hx.1, hx.2⟩)
          have hV5 := hV.next hr5 g5
          have hX5 := hX.kept g5 (fun e => by have := Option.some.inj e; have := HW1.out; omega)
          clear hrep hr5 hx hp
          go_wp2_with fail
          try simp only [aQ]
          refine any_at (R := fun V => Q1 w wr V b R (all.length + 8) (.slice G all.length cap) F all r5 (.slice Gt ps.length ct) ps ∧ ElC wr V (all.length + 8) t [.int .i64 k9, .slice G0 n0 c0', .int .i64 k1, .int .i64 m1, .int .i64 p1, .slice G1 n1 c1', .slice G2 n2 c2', .bool o1, .int .i64 l1, .slice G3 n3 c3', .slice G4 n4 c4', .slice G5 n5 c5'] ∧ Has V X [.int .i64 0, .slice none 0 0, .int .i64 0, .int .i64 0, .int .i64 0, .slice none 0 0, .slice none 0 0, .bool false, .int .i64 0, .slice none 0 0, .slice none 0 0, .slice none 0 0] ∧ wr.heap.size ≤ X) ⟨hV5, hE0, hX5, hXW⟩ (fun V13 hV' => ?_)
          clear hV hV5 hE0 g5 hX hX5 hXW
          obtain ⟨hV, hE, hX, hXW⟩ := hV'
          refine lsA #[true, true, true, true, true, false, false, false, false] ?_
          apply FIN trivial <;> assumption
         exact .nil
        refine .cons ix2 (fun K hK => ?_) ?_
        ·go_simp
         go_at_call 75
         refine ((HC.out _ hV.rd hV.bw).mono ?_)
         intro e w5 hp
         rcases hp.split with ⟨kk, c, ch, hx, rfl, HCH, g5⟩ | ⟨t, r5, hx, ⟨vs, rfl, hrep⟩, hr5, g5⟩
         ·have PRX : Hid (PR3 w5 R (.slice Gt ps.length ct) 0 0 ∧ Below w.heap.size w w5) := ⟨hV.pr.grown g5 (fun x e => by obtain rfl : b = x := Option.some.inj e; exact hV.Rb), below_gr hV.bw g5 (by have := hV.Rb; have := hV.wR; omega)⟩
          have HX := Lib.hid hx
          clear g5 hp hx
          go_wp2_with fail
          exact ⟨⟨rfl, rfl, rfl, rfl⟩, _, _, HX, HCH.out, ⟨_, PRX.out.1⟩, PRX.out.2⟩
         have HX := Lib.hid hx
         obtain ⟨k9, G0, n0, c0', k1, m1, p1, G1, n1, c1', G2, n2, c2', o1, l1, G3, n3, c3', G4, n4, c4', G5, n5, c5', rfl⟩ := cmd_form12 hrep
         have hE0 : ElC wr w5 (all.length + 8) t [.int .i64 k9, .slice G0 n0 c0', .int .i64 k1, .int .i64 m1, .int .i64 p1, .slice G1 n1 c1', .slice G2 n2 c2', .bool o1, .int .i64 l1, .slice G3 n3 c3', .slice G4 n4 c4', .slice G5 n5 c5'] := (cCmd (all.length + 8)).mono (cmd_bd _ hrep) (fun x hx => ⟨Nat.le_trans hV.sz hx.1, hx.2⟩)
         have hV5 := hV.next hr5 g5
         have hX5 := hX.kept g5 (fun e => by have := Option.some.inj e; have := HW1.out; omega)
         clear hrep hr5 hx hp
         go_wp2_with fail
         try simp only [aQ]
         refine any_at (R := fun V => Q1 w wr V b R (all.length + 8) (.slice G all.length cap) F all r5 (.slice Gt ps.length ct) ps ∧ ElC wr V (all.length + 8) t [.int .i64 k9, .slice G0 n0 c0', .int .i64 k1, .int .i64 m1, .int .i64 p1, .slice G1 n1 c1', .slice G2 n2 c2', .bool o1, .int .i64 l1, .slice G3 n3 c3', .slice G4 n4 c4', .slice G5 n5 c5'] ∧ Has V X [.int .i64 0, .slice none 0 0, .int .i64 0, .int .i64 0, .int .i64 0, .slice none 0 0, .slice none 0 0, .bool false, .int .i64 0, .slice none 0 0, .slice none 0 0, .slice none 0 0] ∧ wr.heap.size ≤ X) ⟨hV5, hE0, hX5, hXW⟩ (fun V14 hV' => ?_)
         clear hV hV5 hE0 g5 hX hX5 hXW
         obtain ⟨hV, hE, hX, hXW⟩ := hV'
         refine rdA [0] ?_
         refine .cons ix0 (fun K hK => ?_) ?_
         ·have e7' := hV.pr.c0
          go_simp
          clear e7'
          refine hK _ _ ?_
          clear hK K
          try simp only [aQ]
          refine tkA 3 ix3 ?_ (hQ := by intro _ _ _ h; exact PanicD.put (by decide) h)
          refine lsA #[true, true, true, true, true, false, false, false, false] ?_
          apply FIN trivial <;> assumption
         exact .nil
        exact .nil
       exact .nil
      ·intro t r5 k9 G0 n0 c0' k1 m1 p1 G1 n1 c1' G2 n2 c2' o1 l1 G3 n3 c3' G4 n4 c4' G5 n5 c5' X V9 HX hV hE hX hXW
       refine rdA [5] ?_
       refine .cons ix5 (fun K hK => ?_) .nil
       have HNW : Hid (∀ j u, ([.int .i64 0, .slice none 0 0, .int .i64 0, .int .i64 0, .int .i64 0, .slice none 0 0, .slice none 0 0, .bool false, .int .i64 0, .slice none 0 0, .slice none 0 0, .slice none 0 0] : List Value)[j]? = some u → V9.cell? (Addr.add ⟨X, 0, none⟩ j) = some u) := fun j u hu => by rw [Addr.add_lit, Nat.zero_add]; exact hX.1 j u hu
       have HV := Lib.hid hV; have HE := Lib.hid hE
       have HTV : Hid (b + 1 ≤ V9.heap.size) := hV.rd.lt
       clear hV hE hX hXW
       refine step_append_lies _ (by rfl) _ _ _ (by rfl) (b + 1) 160 i0 _ 12 192 Tryz.underlying90 HI0.out HZ0.out HZ1'.out HZ2'.out rfl (by omega) (.slice Gt ps.length ct) ps.length (hcells ps) (by rfl) HV.out.row.1 ⟨X, 0, none⟩ 1 1 [.int .i64 0, .slice none 0 0, .int .i64 0, .int .i64 0, .int .i64 0, .slice none 0 0, .slice none 0 0, .bool false, .int .i64 0, .slice none 0 0, .slice none 0 0, .slice none 0 0] (by rfl) (by rfl) HNW.out (by simp [Value.oneCell']) (by omega) (by unfold maxLen; omega) (by omega) HTV.out V9.heap.size rfl ?_
       intro g6 cap6 w6 hown6 hgrow6 hat6 hlt6
       refine hK _ _ ?_
       clear hK K
       try simp only [aQ]
       refine any_at (R := fun V => Q2 w V9 V b R (.slice G all.length cap) F all r5 (.slice Gt ps.length ct) (.slice Gt ps.length ct) g6 ps.length cap6 (hcells ps ++ [.int .i64 0, .slice none 0 0, .int .i64 0, .int .i64 0, .int .i64 0, .slice none 0 0, .slice none 0 0, .bool false, .int .i64 0, .slice none 0 0, .slice none 0 0, .slice none 0 0])) (Q2.start HV.out hown6 hgrow6) (fun U0 hU => ?_)
       have HAT := Lib.hid hat6
       clear hown6 hgrow6 hat6 hlt6 HNW
       have hlt9 : (ps.length : Int) < (ps.length : Int) + 1 := by omega
       refine tkA 6 ix6 ?_ (hQ := by intro _ _ _ h; exact PanicD.put (by decide) h)
       clear hlt9
       refine rdA [7, 8] ?_
       refine .cons ix7 (fun K hK => ?_) ?_
       ·obtain ⟨y0, y1, y2, y3, y4, y5, y6, y7, y8, y9, y10, y11, z0, z1, z2, z3, z4, z5, z6, z7, z8, z9, z10, z11⟩ := hU.cells12 HPL.out
        go_simp
        clear y0 y1 y2 y3 y4 y5 y6 y7 y8 y9 y10 y11 z0 z1 z2 z3 z4 z5 z6 z7 z8 z9 z10 z11
        refine hK _ _ ?_
        clear hK K
        try simp only [aQ]
        refine any_at (R := fun V => Q2 w V9 V b R (.slice G all.length cap) F all r5 (.slice Gt ps.length ct) (.slice Gt ps.length ct) g6 ps.length cap6 (hcells ps ++ [.int .i64 k9, .slice G0 n0 c0', .int .i64 k1, .int .i64 m1, .int .i64 p1, .slice G1 n1 c1', .slice G2 n2 c2', .bool o1, .int .i64 l1, .slice G3 n3 c3', .slice G4 n4 c4', .slice G5 n5 c5'])) (hU.st12 HPL.out HAT.out _ _ _ _ _ _ _ _ _ _ _ _) (fun U1 hU' => ?_)
        clear hU
        have hU := hU'
        clear hU'
        refine rdA [8] ?_
        refine .cons ix8 (fun K hK => ?_) ?_
        ·have e7' := hU.pr.c0
         have f7' := hU.pr.f0
         go_simp
         clear e7' f7'
         refine hK _ _ ?_
         clear hK K
         try simp only [aQ]
         refine any_at (R := fun V => Q2 w V9 V b R (.slice G all.length cap) F all r5 (.slice Gt ps.length ct) (.slice (some ⟨g6, 0, none⟩) (ps.length + 1) cap6) g6 ps.length cap6 (hcells ps ++ [.int .i64 k9, .slice G0 n0 c0', .int .i64 k1, .int .i64 m1, .int .i64 p1, .slice G1 n1 c1', .slice G2 n2 c2', .bool o1, .int .i64 l1, .slice G3 n3 c3', .slice G4 n4 c4', .slice G5 n5 c5'])) (hU.setR _) (fun U12 hU' => ?_)
         clear hU
         have hU := hU'
         clear hU'
         refine wpAny_done (by kernel_rfl) ?_ _
         have hrow9 := row_fin2 (c := cCmd (all.length + 8)) (ty := 160) (W := wr) HV.out.row HV.out.sz HE.out HVW.out HW1.out hU.own HAT.out hU.same hU.sz
         have HROW9 := Lib.hid hrow9; have HU9 := Lib.hid hU
         clear hrow9 hU HV HE HAT HTV
         refine PanicD.normal ?_
         have hx := HX.out
         rw [hx] at hls
         have hr5l : r5.length + 1 ≤ rr.length := hls
         have HZX : Hid (allP (all.length + 1) all = bnd (allP mm' r5) fun cs q => .ok (ps.map Prod.fst ++ (t :: cs), q)) := by unfold Hid; rw [HQ2.out, hx]; rfl
         clear hx hls HX HQ2
         have h9 := HU9.out
         have HROWT := Lib.hid HROW9.out
         go_wp2_with fail
         go_roundw
         case rel => exact ⟨some ⟨g6, 0, none⟩, cap6, ps ++ [(t, [.int .i64 k9, .slice G0 n0 c0', .int .i64 k1, .int .i64 m1, .int .i64 p1, .slice G1 n1 c1', .slice G2 n2 c2', .bool o1, .int .i64 l1, .slice G3 n3 c3', .slice G4 n4 c4', .slice G5 n5 c5'])], r5, mm', by rw [List.length_append]; exact ⟨h9.rd, h9.pr, HROWT.out, h9.bw, h9.Rb, h9.wR, h9.low, Nat.le_refl _⟩, by omega, by rw [List.length_append]; show ps.length + 1 + _ ≤ _; omega, by unfold Hid; simp only [List.map_append, List.append_assoc]; exact HZX.out⟩
         case measure => exact HQ1.out.rd.meas HU9.out.rd (by omega)
        exact .nil
       refine .cons ix8 (fun K hK => ?_) ?_
       ·have e7' := hU.pr.c0
        have f7' := hU.pr.f0
        go_simp
        clear e7' f7'
        refine hK _ _ ?_
        clear hK K
        try simp only [aQ]
        refine any_at (R := fun V => Q2 w V9 V b R (.slice G all.length cap) F all r5 (.slice Gt ps.length ct) (.slice (some ⟨g6, 0, none⟩) (ps.length + 1) cap6) g6 ps.length cap6 (hcells ps ++ [.int .i64 0, .slice none 0 0, .int .i64 0, .int .i64 0, .int .i64 0, .slice none 0 0, .slice none 0 0, .bool false, .int .i64 0, .slice none 0 0, .slice none 0 0, .slice none 0 0])) (hU.setR _) (fun U1 hU' => ?_)
        clear hU
        have hU := hU'
        clear hU'
        refine rdA [7] ?_
        refine .cons ix7 (fun K hK => ?_) ?_
        ·obtain ⟨y0, y1, y2, y3, y4, y5, y6, y7, y8, y9, y10, y11, z0, z1, z2, z3, z4, z5, z6, z7, z8, z9, z10, z11⟩ := hU.cells12 HPL.out
         go_simp
         clear y0 y1 y2 y3 y4 y5 y6 y7 y8 y9 y10 y11 z0 z1 z2 z3 z4 z5 z6 z7 z8 z9 z10 z11
         refine hK _ _ ?_
         clear hK K
         try simp only [aQ]
         refine any_at (R := fun V => Q2 w V9 V b R (.slice G all.length cap) F all r5 (.slice Gt ps.length ct) (.slice (some ⟨g6, 0, none⟩) (ps.length + 1) cap6) g6 ps.length cap6 (hcells ps ++ [.int .i64 k9, .slice G0 n0 c0', .int .i64 k1, .int .i64 m1, .int .i64 p1, .slice G1 n1 c1', .slice G2 n2 c2', .bool o1, .int .i64 l1, .slice G3 n3 c3', .slice G4 n4 c4', .slice G5 n5 c5'])) (hU.st12 HPL.out HAT.out _ _ _ _ _ _ _ _ _ _ _ _) (fun U12 hU' => ?_)
         clear hU
         have hU := hU'
         clear hU'
         refine wpAny_done (by kernel_rfl) ?_ _
         have hrow9 := row_fin2 (c := cCmd (all.length + 8)) (ty := 160) (W := wr) HV.out.row HV.out.sz HE.out HVW.out HW1.out hU.own HAT.out hU.same hU.sz
         have HROW9 := Lib.hid hrow9; have HU9 := Lib.hid hU
         clear hrow9 hU HV HE HAT HTV
         refine PanicD.normal ?_
         have hx := HX.out
         rw [hx] at hls
         have hr5l : r5.length + 1 ≤ rr.length := hls
         have HZX : Hid (allP (all.length + 1) all = bnd (allP mm' r5) fun cs q => .ok (ps.map Prod.fst ++ (t :: cs), q)) := by unfold Hid; rw [HQ2.out, hx]; rfl
         clear hx hls HX HQ2
         have h9 := HU9.out
         have HROWT := Lib.hid HROW9.out
         go_wp2_with fail
         go_roundw
         case rel => exact ⟨some ⟨g6, 0, none⟩, cap6, ps ++ [(t, [.int .i64 k9, .slice G0 n0 c0', .int .i64 k1, .int .i64 m1, .int .i64 p1, .slice G1 n1 c1', .slice G2 n2 c2', .bool o1, .int .i64 l1, .slice G3 n3 c3', .slice G4 n4 c4', .slice G5 n5 c5'])], r5, mm', by rw [List.length_append]; exact ⟨h9.rd, h9.pr, HROWT.out, h9.bw, h9.Rb, h9.wR, h9.low, Nat.le_refl _⟩, by omega, by rw [List.length_append]; show ps.length + 1 + _ ≤ _; omega, by unfold Hid; simp only [List.map_append, List.append_assoc]; exact HZX.out⟩
         case measure => exact HQ1.out.rd.meas HU9.out.rd (by omega)
        exact .nil
       exact .nil
end Go.Proofs.YtmkppkjikifdlaaGreatDoor.Sc
