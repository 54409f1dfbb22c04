/-
  DERIVED. 'entriesOf' of postroomkeep: the walk.
-/
import Derived.Test.YtaeejmggmgejcaaDoorEntry
import Derived.Deep.AppendLies
import Derived.Test.YtaeejmggmgejcaaDoorPair
namespace Go.Proofs.YtaeejmggmgejcaaDoor
open Go.RowKit

/-- 'in block g, from place p on, lie the raw numbers c' -/
def RawIn (w : World) (g p : Nat) (c : Raw) : Prop :=
  w.cell? ⟨g, p, none⟩ = some (.int .i64 c.kind) ∧ w.cell? ⟨g, p + 1, none⟩ = some (.int .i64 c.box) ∧ w.cell? ⟨g, p + 2, none⟩ = some (.int .i64 c.uid) ∧ w.cell? ⟨g, p + 3, none⟩ = some (.int .i64 c.flags) ∧
  w.cell? ⟨g, p + 4, none⟩ = some (.int .i64 c.dest) ∧ w.cell? ⟨g, p + 5, none⟩ = some (.string c.text) ∧ RawOK c
theorem RawIn.down {w w' : World} {g p : Nat} {c : Raw} (h : RawIn w g p c) (hb : Below w.heap.size w w') : RawIn w' g p c :=
  ⟨moved h.1 hb (Nat.le_refl _), moved h.2.1 hb (Nat.le_refl _), moved h.2.2.1 hb (Nat.le_refl _), moved h.2.2.2.1 hb (Nat.le_refl _), moved h.2.2.2.2.1 hb (Nat.le_refl _), moved h.2.2.2.2.2.1 hb (Nat.le_refl _), h.2.2.2.2.2.2⟩
/-- 'the slice from a on holds the raw numbers cs' -/
def RawsAt (w : World) (a : Option Addr) (cs : List Raw) : Prop :=
  ∀ i c, cs[i]? = some c → ∃ g off, a = some ⟨g, off, none⟩ ∧ g < w.heap.size ∧ RawIn w g (off + i * 6) c
theorem RawsAt.down {w w' : World} {a : Option Addr} {cs : List Raw} (h : RawsAt w a cs) (hb : Below w.heap.size w w') : RawsAt w' a cs := by
  intro i c hc
  obtain ⟨g, off, h1, h2, h3⟩ := h i c hc
  exact ⟨g, off, h1, Nat.lt_of_lt_of_le h2 hb.size, h3.down hb⟩
theorem infoEnt : (Tryd.prog.info? 44).map (fun i => (i.zero, i.size, i.bytes)) = some (some (.agg #[.int .i64 0, .string ⟨#[]⟩, .int .i64 0, .int .i64 0, .string ⟨#[]⟩, .string ⟨#[]⟩]), 6, 72) := by kernel_rfl
theorem entV_eq (x : Ent) : entV x = .agg #[.int .i64 x.kind, .string ⟨x.box.toArray⟩, .int .i64 x.uid, .int .i64 x.flags, .string ⟨x.to.toArray⟩, .string ⟨x.text.toArray⟩] := rfl
theorem news_six (w : World) (o : Obj) (a0 a1 a2 a3 a4 a5 : Value) (t : TypeId) : ∀ j u, [a0, a1, a2, a3, a4, a5][j]? = some u → ((w.alloc o).alloc (.cells #[a0, a1, a2, a3, a4, a5] t)).cell? (Addr.add ⟨w.heap.size + 1, 0, none⟩ j) = some u := by
  intro j u hj
  rw [Addr.add_lit, Nat.zero_add]
  have := alloc_cell (w.alloc o) #[a0, a1, a2, a3, a4, a5] t j u (by simpa using hj)
  simpa using this
/-- the entries of raw numbers -/
def entsOf (cs : List Raw) : List Ent := cs.map entOf
theorem entsOf_take (cs : List Raw) (j : Nat) (c : Raw) (h : cs[j]? = some c) : entsOf (cs.take (j + 1)) = entsOf (cs.take j) ++ [entOf c] := by
  obtain ⟨hl, rfl⟩ := List.getElem?_eq_some_iff.1 h
  unfold entsOf
  rw [List.take_succ_eq_append_getElem hl, List.map_append]; rfl

set_option maxHeartbeats 4000000 in
set_option maxRecDepth 20000 in
theorem entriesOf_any (a : Option Addr) (cap : Nat) (cs : List Raw) (most : Nat) (w : World) (h : RawsAt w a cs) (hlen : cs.length ≤ 9223372036854775807) (hmost : most ≤ 1000) :
    Calls Tryd.prog 16 #[.slice a cs.length cap, .int .i64 most] w fun e w' => (∃ v, e = .returned v ∧ w'.ownsRow w.heap.size 44 6 v (min cs.length most) (ecells (entsOf (cs.take most)))) ∧ Below w.heap.size w w' := by
  obtain ⟨i0, hi, hz0, hz1, hz2⟩ := info_parts infoEnt
  have HI := Lib.hid hi; have HZ0 := Lib.hid hz0; have HZ1 := Lib.hid hz1; have HZ2 := Lib.hid hz2
  clear hi hz0 hz1 hz2
  have HE : Hid (∀ (c : Raw) (w : World), RawOK c → Calls Tryd.prog 29 #[.agg #[.int .i64 c.kind, .int .i64 c.box, .int .i64 c.uid, .int .i64 c.flags, .int .i64 c.dest, .string c.text]] w fun e w' => e = .returned (.agg #[.int .i64 (entOf c).kind, .string ⟨(entOf c).box.toArray⟩, .int .i64 (entOf c).uid, .int .i64 (entOf c).flags, .string ⟨(entOf c).to.toArray⟩, .string ⟨(entOf c).text.toArray⟩]) ∧ Below w.heap.size w w') := fun c w hc => entry_any c w hc
  have HR := Lib.hid h; clear h
  go_enter Tryd.func16, Tryd.ntmps16
  go_wp2_with fail
  go_loopw [5, 6] (fun v i wr => ∃ j : Nat, j ≤ cs.length ∧ j ≤ most ∧ i = .int .i64 j ∧ wr.ownsRow w.heap.size 44 6 v j (ecells (entsOf (cs.take j))) ∧ Below w.heap.size w wr) (fun _ i _ => cs.length - (intOf i).toNat)
  case atStart => exact ⟨0, Nat.zero_le _, Nat.zero_le _, rfl, World.ownsRow_nil _ _ _ _, Below.refl _ _⟩
  case round =>
    obtain ⟨j, hj, hjm, rfl, hown, hb⟩ := hrel
    have hsz : w.heap.size ≤ wr.heap.size := hb.size
    by_cases hlt : j < cs.length ∧ j < most
    · obtain ⟨hl, hm⟩ := hlt
      obtain ⟨c, hc⟩ : ∃ c, cs[j]? = some c := ⟨_, List.getElem?_eq_getElem hl⟩
      obtain ⟨g, off, ha, hg, hin⟩ := HR.out j c hc
      have hin2 := hin.down hb
      obtain ⟨m0, m1, m2, m3, m4, m5, hok⟩ := hin2
      subst ha
      have HT := Lib.hid (entsOf_take cs j c hc)
      obtain ⟨L, hL⟩ : ∃ L, L = ecells (entsOf (cs.take j)) := ⟨_, rfl⟩
      have hLn : Hid (ecells (entsOf (cs.take (j + 1))) = L ++ [.int .i64 (entOf c).kind, .string ⟨(entOf c).box.toArray⟩, .int .i64 (entOf c).uid, .int .i64 (entOf c).flags, .string ⟨(entOf c).to.toArray⟩, .string ⟨(entOf c).text.toArray⟩]) := by
        unfold Hid
        rw [HT.out, ecells_snoc, hL]; rfl
      rw [← hL] at hown
      clear hL hc hin
      have HO := Lib.hid hown; have HB := Lib.hid hb; have HOK := Lib.hid hok
      clear hown hb hok
      obtain ⟨x, hx⟩ : ∃ x, x = entOf c := ⟨_, rfl⟩
      rw [← hx] at hLn
      have HX := Lib.hid hx; clear hx
      go_wp2_with fail
      refine (HE.out c _ HOK.out).mono ?_
      rintro e w1 ⟨rfl, hb1⟩
      rw [← HX.out]
      have hO1 := row_down HO.out hb1
      have hB1 := bt HB.out hb1
      have hb1s := hb1.size
      go_wp2_with (at_builtin; refine wpList_append_lies _ (by rfl) _ _ _ (by rfl) w.heap.size 44 i0 _ 6 72 Tryd.underlying27 HI.out HZ0.out HZ1.out HZ2.out rfl (by omega) u5 j L (by rfl) ((hO1.alloc _).alloc _) ⟨w1.heap.size + 1, 0, none⟩ 1 1 [.int .i64 x.kind, .string ⟨x.box.toArray⟩, .int .i64 x.uid, .int .i64 x.flags, .string ⟨x.to.toArray⟩, .string ⟨x.text.toArray⟩] (by rfl) (by rfl) (news_six w1 _ _ _ _ _ _ _ _) (by simp [Value.oneCell']) (by omega) (by unfold maxLen; omega) (by omega) (by simp; omega) (w1.heap.size + 2) (by simp) ?_)
      intro g3 cap3 w3 hown3 hgrow hat hlt3
      have hb3 : Below w.heap.size w w3 := below_row (ba (ba hB1 _) _) (Nat.le_refl _) ((hO1.alloc _).alloc _) (Nat.le_refl _) hgrow
      rw [← hLn.out] at hown3
      clear hgrow hat hlt3 hO1 hB1 hb1 hb1s m0 m1 m2 m3 m4 m5
      go_wp2_with fail
      go_roundw
      case rel => exact ⟨j + 1, by omega, by omega, by go_num, hown3, hb3⟩
      case measure => simp [intOf]; omega
    · have hmin : min cs.length most = j := by omega
      have htk : cs.take most = cs.take j := by
        by_cases h : j = most
        · rw [h]
        · rw [List.take_of_length_le (by omega), List.take_of_length_le (by omega)]
      have HM := Lib.hid hmin; have HTK := Lib.hid htk
      clear hmin htk
      by_cases h : j < cs.length
      · have h2 : decide ((j : Int) < most) = false := decide_eq_false (by omega)
        go_wp2_with fail
        go_ret
        exact ⟨⟨_, rfl, by rw [HM.out, HTK.out]; exact hown⟩, hb⟩
      · have h2 : decide ((j : Int) < cs.length) = false := decide_eq_false (by omega)
        go_wp2_with fail
        go_ret
        exact ⟨⟨_, rfl, by rw [HM.out, HTK.out]; exact hown⟩, hb⟩
end Go.Proofs.YtaeejmggmgejcaaDoor
