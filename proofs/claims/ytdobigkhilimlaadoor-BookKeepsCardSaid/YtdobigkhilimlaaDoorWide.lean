/-
  DERIVED. 'wide' of book: the walk.
-/
import Derived.Test.YtdobigkhilimlaaDoorTextR
import Derived.Deep.AppendLies
namespace Go.Proofs.YtdobigkhilimlaaDoor
open Go.RowKit

/-- a value that grows: what else there was stays, and the new one lies in the old one's block or in a new one -/
def OGrows (w w' : World) (v v' : Value) : Prop := w.grownBy w' v.ownBlock ∧ ∀ X, X < w.heap.size → some X ≠ v.ownBlock → some X ≠ v'.ownBlock
theorem OGrows.refl (w : World) (v : Value) : OGrows w w v v := ⟨World.grownBy.refl w _, fun _ _ h => h⟩
theorem OGrows.trans {w w1 w2 : World} {v v1 v2 : Value} (h : OGrows w w1 v v1) (k : OGrows w1 w2 v1 v2) : OGrows w w2 v v2 :=
  ⟨⟨k.1.os.trans h.1.os, k.1.tape.trans h.1.tape, k.1.output.trans h.1.output, Nat.le_trans h.1.size k.1.size, fun X hX hne => (k.1.block X (Nat.lt_of_lt_of_le hX h.1.size) (h.2 X hX hne)).trans (h.1.block X hX hne)⟩,
   fun X hX hne => k.2 X (Nat.lt_of_lt_of_le hX h.1.size) (h.2 X hX hne)⟩
theorem OGrows.below {B : Nat} {w w' : World} {v v' : Value} {base e size n : Nat} {xs : List Value} (h : OGrows w w' v v') (ho : w.ownsRow base e size v n xs) (hB : B ≤ base) (hs : B ≤ w.heap.size) : Below B w w' :=
  below_row (Below.refl B w) hs ho hB h.1
theorem wideL_get (n : Nat) : ∀ (k i : Nat), i < k → (wideL n k)[i]? = some (UInt8.ofNat (n / 256 ^ (k - 1 - i)))
  | k + 1, 0, _ => rfl
  | k + 1, i + 1, h => by
    show (wideL n k)[i]? = _
    rw [wideL_get n k i (by omega), show k + 1 - 1 - (i + 1) = k - 1 - i by omega]
theorem wideL_take (n k m : Nat) (h : m < k) : (wideL n k).take (k - m) = (wideL n k).take (k - (m + 1)) ++ [UInt8.ofNat (n / 256 ^ m)] := by
  rw [show k - m = k - (m + 1) + 1 by omega, List.take_add_one, wideL_get n k _ (by omega), show k - 1 - (k - (m + 1)) = m by omega]
  rfl
theorem wide_byte (n m : Nat) : (n : Int) / 2 ^ (8 * m) % 256 = ((UInt8.ofNat (n / 256 ^ m)).toNat : Int) := by
  rw [UInt8.toNat_ofNat']
  have h : (256 : Nat) ^ m = 2 ^ (8 * m) := (Nat.pow_mul 2 8 m).symm
  have h2 : ((2 ^ (8 * m) : Nat) : Int) = (2 : Int) ^ (8 * m) := by rw [Int.natCast_pow]; rfl
  rw [h, ← h2]
  show _ = ((n / 2 ^ (8 * m) % 256 : Nat) : Int)
  omega
theorem lies_grows {w w1 w3 : World} {v : Value} {g n cap : Nat} (hb : Below w.heap.size w w1) (_hv : v.ownBlock = none ∨ ∃ x, v.ownBlock = some x ∧ x < w.heap.size) (hg : w1.grownBy w3 v.ownBlock) (hat : v.ownBlock = some g ∨ g = w1.heap.size) : OGrows w w3 v (.slice (some ⟨g, 0, none⟩) n cap) := by
  refine ⟨⟨hg.os.trans hb.os, hg.tape.trans hb.tape, hg.output.trans hb.output, Nat.le_trans hb.size hg.size, fun X hX hne => (hg.block X (Nat.lt_of_lt_of_le hX hb.size) hne).trans (hb.block X hX)⟩, fun X hX hne e => ?_⟩
  have e2 : X = g := Option.some.inj e
  subst e2
  rcases hat with hat | hat
  · exact hne hat.symm
  · have := hb.size; omega
theorem own_lt {w : World} {base e size n : Nat} {v : Value} {xs : List Value} (h : w.ownsRow base e size v n xs) : v.ownBlock = none ∨ ∃ x, v.ownBlock = some x ∧ x < w.heap.size := by
  cases hv : v.ownBlock with
  | none => exact .inl rfl
  | some k => exact .inr ⟨k, rfl, (h.lt k hv).2⟩

set_option maxHeartbeats 4000000 in
set_option maxRecDepth 20000 in
theorem wide_any (base : Nat) (v : Value) (l : List UInt8) (n k : Nat) (w : World) (ho : OwnB w base 5 v l) (hb : base ≤ w.heap.size) (hk : k ≤ 3) (_hn : n < 16777216) (hl : l.length ≤ 200000) :
    Calls Tryd.prog 24 #[v, .int .i64 n, .int .i64 k] w fun e w' => ∃ v', e = .returned v' ∧ OwnB w' base 5 v' (l ++ wideL n k) ∧ OGrows w w' v v' := by
  obtain ⟨i0, hi, hz0, hz1, hz2⟩ := info_parts infoU8
  have HI := Lib.hid hi; have HZ0 := Lib.hid hz0; have HZ1 := Lib.hid hz1; have HZ2 := Lib.hid hz2
  clear hi hz0 hz1 hz2
  go_enter Tryd.func24, Tryd.ntmps24
  go_wp2_with fail
  go_loopw [0, 7] (fun b i wr => ∃ j : Nat, j ≤ k ∧ i = .int .i64 ((j : Int) - 1) ∧ OwnB wr base 5 b (l ++ (wideL n k).take (k - j)) ∧ OGrows w wr v b) (fun _ i _ => (intOf i + 1).toNat)
  case atStart => exact ⟨k, Nat.le_refl _, by go_num, by simpa using ho, OGrows.refl w v⟩
  case round =>
    obtain ⟨j, hj, rfl, hob, hg⟩ := hrel
    by_cases hlt : 0 < j
    · obtain ⟨m, rfl⟩ : ∃ m, j = m + 1 := ⟨j - 1, by omega⟩
      obtain ⟨L, hL⟩ : ∃ L, L = l ++ (wideL n k).take (k - (m + 1)) := ⟨_, rfl⟩
      have hLl : L.length ≤ 200003 := by rw [hL, List.length_append, List.length_take, wideL_length]; omega
      have hnx := Lib.hid (show l ++ (wideL n k).take (k - m) = L ++ [UInt8.ofNat (n / 256 ^ m)] by rw [wideL_take n k m (by omega), hL, List.append_assoc])
      have hby := Lib.hid (wide_byte n m)
      rw [← hL] at hob
      clear hL
      obtain ⟨c, hc⟩ : ∃ c, c = (n : Int) / 2 ^ (8 * m) % 256 := ⟨_, rfl⟩
      rw [← hc] at hby
      have hbl := Lib.hid hc.symm
      have hbw := hg.1.size
      have hu := own_lt hob
      clear hc
      go_wp2_with (at_builtin; rw [hbl.out]; refine wpList_append_lies _ (by rfl) _ _ _ (by rfl) base 5 i0 _ 1 1 Tryd.underlying27 HI.out HZ0.out HZ1.out HZ2.out rfl (by omega) u0 L.length (bcells L) (by rfl) (World.ownsRow.alloc hob _) ⟨wr.heap.size, 0, none⟩ 1 1 [.int .u8 c] (by rfl) (by rfl) (World.news_of_block (cs := #[.int .u8 c]) (t := 5) (fr := (0, 0)) (heap_alloc_new wr _)) (by simp [Value.oneCell']) (by omega) (by unfold maxLen; omega) (by omega) (by simp; omega) (wr.heap.size + 1) (by simp) ?_)
      intro g cap w3 hown hgrow hat hlt3
      have hG := lies_grows (n := L.length + 1) (cap := cap) (ba (Below.refl _ wr) (.cells #[.int .u8 c] 5)) hu hgrow (by simpa using hat)
      go_wp2_with fail
      go_roundw
      case rel => 
        refine ⟨m, by omega, by go_num, ?_, hg.trans hG⟩
        rw [hnx.out]
        have : bcells L ++ [.int .u8 c] = bcells (L ++ [UInt8.ofNat (n / 256 ^ m)]) := by rw [bcells_append, hby.out]; rfl
        rw [this] at hown
        unfold OwnB
        rw [List.length_append]
        exact hown
      case measure => simp [intOf]
    · obtain rfl : j = 0 := by omega
      have hall : (wideL n k).take (k - 0) = wideL n k := by rw [Nat.sub_zero, List.take_of_length_le (by rw [wideL_length]; omega)]
      rw [hall] at hob
      clear hall
      go_wp2_with fail
      go_ret
      exact ⟨u0, rfl, hob, hg⟩
end Go.Proofs.YtdobigkhilimlaaDoor
