/-
  DERIVED. Words that the laws of the book share.
-/
import Derived.Test.YtdobigkhilimlaaDoorTaped
import Derived.Test.YtdobigkhilimlaaDoorBegins
import Derived.Test.YtdobigkhilimlaaDoorBatchesOf
import Derived.Test.YtdobigkhilimlaaDoorRecover
import Derived.Test.YtdobigkhilimlaaDoorBatchFixed
namespace Go.Proofs.YtdobigkhilimlaaDoor
open Go.RowKit

theorem tape_len : ∀ bs : List Bat, (∀ b ∈ bs, OKB b) → (tapeL bs).length ≤ bs.length * 968
  | [], _ => Nat.le_refl _
  | b :: l, h => by
    have h1 := (h b (List.mem_cons_self ..)).2
    have h2 := tape_len l (fun x hx => h x (List.mem_cons_of_mem _ hx))
    rw [tapeL_cons, List.length_append, List.length_cons]; omega
/-- what is known of the batches of raw numbers -/
theorem bats_known {bs : List Bat} (h : ∀ b ∈ bs, OKB b) (hl : bs.length ≤ 26) : (∀ b ∈ bs, GoodB b) ∧ (tapeL bs).length ≤ 25168 ∧ (∀ b ∈ bs, b.1 < 1000000 ∧ b.2.length ≤ 1000) := by
  refine ⟨fun b hb => (h b hb).1, by have := tape_len bs h; omega, fun b hb => ?_⟩
  obtain ⟨g1, g2, g3⟩ := bcheck_inv (h b hb).1
  exact ⟨by have : b.1 < 3 := g1; omega, by have : b.2.length ≤ 10 := g2.2; omega⟩
/-- what stands behind a call that answers a tape -/
def TapeNew (D : List UInt8) (s : Int) (wr : World) (p e : Value) (wx : World) : Prop := ∃ (R : Nat) (a : Option Addr) (c : Nat), p = .pointer (some ⟨R, 0, none⟩) ∧ e = .int .i64 0 ∧ wr.heap.size ≤ R ∧ Has wx R [.slice a D.length c, .int .i64 s] ∧ Bytes wx (.slice a D.length c) D ∧ Below wr.heap.size wr wx
theorem tape_new {D : List UInt8} {s : Int} {wr wx : World} {a : Option Addr} {c : Nat} (hu : Bytes wx (.slice a D.length c) D) (hb : Below wr.heap.size wr wx) :
    TapeNew D s wr (.pointer (some ⟨wx.heap.size, 0, none⟩)) (.int .i64 0) (wx.alloc (.cells #[.slice a D.length c, .int .i64 s] 42)) :=
  ⟨wx.heap.size, a, c, rfl, rfl, hb.size, Has.alloc wx [.slice a D.length c, .int .i64 s] 42, hu.down (ba (Below.refl _ _) _), ba hb _⟩
theorem tape_at {D : List UInt8} {s : Int} {wr wx : World} {a : Option Addr} {c R : Nat} {x0 x1 : Value} (hR : wr.heap.size ≤ R) (h : Has wx R [x0, x1]) (hu : Bytes wx (.slice a D.length c) D) (hne : ∀ k, (Value.slice a D.length c).ownBlock = some k → k ≠ R) (hb : Below wr.heap.size wr wx) :
    TapeNew D s wr (.pointer (some ⟨R, 0, none⟩)) (.int .i64 0) ((wx.setCell ⟨R, 0, none⟩ (.slice a D.length c)).setCell ⟨R, 1, none⟩ (.int .i64 s)) :=
  ⟨R, a, c, rfl, rfl, hR, (h.set' (i := 0) _ (by simp)).set' (i := 1) (.int .i64 s) (by simp), (hu.set2 hne).set2 hne, (hb.setCell (p := ⟨R, 0, none⟩) hR _).setCell (p := ⟨R, 1, none⟩) hR _⟩
theorem below_self {w a : World} (R i : Nat) (u : Value) (h : Below w.heap.size w a) (hR : w.heap.size ≤ R) : Below w.heap.size w (a.setCell ⟨R, i, none⟩ u) := h.setCell (p := ⟨R, i, none⟩) hR u
/-- what stands behind a call that answers a tape into a variable that there is -/
def TapeSet (R : Nat) (D : List UInt8) (s : Int) (wr : World) (B : Nat) (e : Value) (wx : World) : Prop := ∃ (a : Option Addr) (c : Nat), e = .int .i64 0 ∧ Has wx R [.slice a D.length c, .int .i64 s] ∧ Bytes wx (.slice a D.length c) D ∧ Below B wr wx

end Go.Proofs.YtdobigkhilimlaaDoor
