/-
  DERIVED. 'take' of book's reader: the walk.
-/
import Derived.Test.YtdobigkhilimlaaDoorPair
import Derived.Test.YtdobigkhilimlaaDoorBatchBackPlain
namespace Go.Proofs.YtdobigkhilimlaaDoor
open Go.RowKit

/-- 'from a on lie the bytes l' -/
def BytesAt (w : World) (a : Option Addr) (l : List UInt8) : Prop :=
  ∀ i c, l[i]? = some c → ∃ g off, a = some ⟨g, off, none⟩ ∧ g < w.heap.size ∧ w.cell? ⟨g, off + i, none⟩ = some (.int .u8 (c.toNat : Int))
/-- .. in a block that is older than b -/
def Apart (a : Option Addr) (b : Nat) : Prop := ∀ x, a = some x → x.block < b
/-- 'the slice v holds the bytes l' -/
def Bytes (w : World) (v : Value) (l : List UInt8) : Prop := ∃ a cap, v = .slice a l.length cap ∧ l.length ≤ cap ∧ BytesAt w a l ∧ Apart a w.heap.size
/-- 'the reader at block b has r left' -/
def Rd (w : World) (b : Nat) (r : Left) : Prop := match r with
  | none => ∃ v, Pair w b v (.bool true)
  | some l => ∃ a cap, Pair w b (.slice a l.length cap) (.bool false) ∧ l.length ≤ cap ∧ BytesAt w a l ∧ Apart a b ∧ l.length ≤ 200000
theorem bytes_nil (w : World) : Bytes w (.slice none 0 0) [] := ⟨none, 0, rfl, Nat.le_refl _, (fun i c h => by simp at h), fun x h => by cases h⟩
theorem bytesAt_set {w : World} {a : Option Addr} {l : List UInt8} {b i : Nat} {v : Value} (h : BytesAt w a l) (hb : Apart a b) : BytesAt (w.setCell ⟨b, i, none⟩ v) a l := by
  intro j c hj
  obtain ⟨g, off, ha, hg, hc⟩ := h j c hj
  have hgb : g ≠ b := Nat.ne_of_lt (hb _ ha)
  have hs : (w.setCell ⟨b, i, none⟩ v).heap.size = w.heap.size := by simp [World.setCell]
  exact ⟨g, off, ha, by omega, (World.cell?_setCell_other _ _ _ _ (by intro e; exact hgb (congrArg Addr.block e).symm)).trans hc⟩
theorem bytesAt_take {w : World} {a : Option Addr} {l : List UInt8} (h : BytesAt w a l) (n : Nat) : BytesAt w a (l.take n) := by
  intro j c hj
  rw [List.getElem?_take] at hj
  split at hj
  · exact h j c hj
  · cases hj
theorem bytesAt_drop {w : World} {a : Option Addr} {l : List UInt8} (h : BytesAt w a l) (n : Nat) : BytesAt w (a.map (·.add n)) (l.drop n) := by
  intro j c hj
  rw [List.getElem?_drop] at hj
  obtain ⟨g, off, ha, hg, hc⟩ := h (n + j) c hj
  refine ⟨g, off + n, ?_, hg, by rw [Nat.add_assoc]; exact hc⟩
  rw [ha]
  show some (Addr.add ⟨g, off, none⟩ n) = _
  rw [Addr.add_lit]
theorem apart_add {a : Option Addr} {b : Nat} (h : Apart a b) (n : Nat) : Apart (a.map (·.add n)) b := by
  intro y ha
  cases a with
  | none => cases ha
  | some x =>
    obtain rfl : x.add n = y := Option.some.inj ha
    have hblk : (x.add n).block = x.block := by unfold Addr.add; split <;> rfl
    rw [hblk]
    exact h x rfl

set_option maxHeartbeats 4000000 in
set_option maxRecDepth 20000 in
theorem take_any (b : Nat) (r : Left) (n : Nat) (w : World) (hn : n ≤ 100000000) (h : Rd w b r) :
    Calls Tryd.prog 29 #[.pointer (some ⟨b, 0, none⟩), .int .i64 n] w fun e w' => (∃ v, e = .returned v ∧ Bytes w' v (takeL n r).1) ∧ Rd w' b (takeL n r).2 ∧ w.grownBy w' (some b) := by
  cases r with
  | none =>
    obtain ⟨v, hp⟩ := h
    have hp' := hp.set1 (.bool true)
    have hg := Go.Lib.grownBy_setB (World.grownBy.refl w (some b)) 1 (.bool true)
    obtain ⟨c0, c1, f0, f1, hb⟩ := hp
    go_enter Tryd.func29, Tryd.ntmps29
    go_wp2_with fail
    go_ret
    exact ⟨⟨_, rfl, bytes_nil _⟩, ⟨v, hp'⟩, hg⟩
  | some l =>
    obtain ⟨a, cap, hp, hcap, hat, hap, hl⟩ := h
    by_cases hlt : l.length < n
    · have htl : takeL n (some l) = ([], none) := take_short n l hlt
      rw [htl]
      have hp' := hp.set1 (.bool true)
      have hg := Go.Lib.grownBy_setB (World.grownBy.refl w (some b)) 1 (.bool true)
      obtain ⟨c0, c1, f0, f1, hb⟩ := hp
      clear htl
      go_enter Tryd.func29, Tryd.ntmps29
      go_wp2_with fail
      go_ret
      exact ⟨⟨_, rfl, bytes_nil _⟩, ⟨_, hp'⟩, hg⟩
    · have htl : takeL n (some l) = (l.take n, some (l.drop n)) := by
        show (if l.length < n then ([], none) else (l.take n, some (l.drop n))) = _
        rw [if_neg hlt]
      rw [htl]
      have HP := Lib.hid hp
      have hd : decide (l.length < n) = false := decide_eq_false hlt
      have htk : (l.take n).length = n := by rw [List.length_take]; omega
      have hdl : (l.drop n).length = l.length - n := List.length_drop
      have HTK := Lib.hid htk; have HDL := Lib.hid hdl
      obtain ⟨c0, c1, f0, f1, hb⟩ := hp
      clear htl htk hdl
      go_enter Tryd.func29, Tryd.ntmps29
      go_wp2_with fail
      · have hcn : cap = n := by assumption
        have hln : l.length = n := by omega
        have hdr : l.drop n = [] := List.drop_eq_nil_of_le (by omega)
        have h0 : l.length - n = 0 := by omega
        go_ret
        refine ⟨⟨_, rfl, a, n, by rw [HTK.out]; rfl, by rw [HTK.out]; exact Nat.le_refl _, bytesAt_set (bytesAt_take hat n) hap, fun x hx => Nat.lt_trans (hap x hx) (by simpa [World.setCell] using hb)⟩, ?_, Go.Lib.grownBy_setB (World.grownBy.refl w (some b)) 0 _⟩
        rw [hdr]
        refine ⟨a, 0, ?_, Nat.le_refl _, (fun i c h => by simp at h), hap, Nat.zero_le _⟩
        have := HP.out.set0 (.slice a (l.length - n) 0)
        rw [h0] at this ⊢
        exact this
      · go_ret
        refine ⟨⟨_, rfl, a, cap, by rw [HTK.out]; rfl, by rw [HTK.out]; omega, bytesAt_set (bytesAt_take hat n) hap, fun x hx => Nat.lt_trans (hap x hx) (by simpa [World.setCell] using hb)⟩, ?_, Go.Lib.grownBy_setB (World.grownBy.refl w (some b)) 0 _⟩
        refine ⟨a.map (·.add n), cap - n, ?_, by rw [HDL.out]; omega, bytesAt_set (bytesAt_drop hat n) (apart_add hap n), apart_add hap n, by rw [HDL.out]; omega⟩
        rw [HDL.out]
        exact HP.out.set0 _
end Go.Proofs.YtdobigkhilimlaaDoor
