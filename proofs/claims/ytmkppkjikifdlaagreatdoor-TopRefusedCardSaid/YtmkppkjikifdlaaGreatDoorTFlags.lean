/- On the way. -/
import Derived.Test.YtmkppkjikifdlaaGreatDoorTKtA
set_option linter.unusedVariables false
set_option linter.unusedSimpArgs false
set_option maxHeartbeats 1000000
namespace Go.Proofs.YtmkppkjikifdlaaGreatDoor
open Go.RowKit
def flNames : List ByteArray := [⟨#[92, 83, 101, 101, 110]⟩, ⟨#[92, 65, 110, 115, 119, 101, 114, 101, 100]⟩, ⟨#[92, 70, 108, 97, 103, 103, 101, 100]⟩, ⟨#[92, 68, 101, 108, 101, 116, 101, 100]⟩, ⟨#[92, 68, 114, 97, 102, 116]⟩]
theorem index_hit (g cap : Nat) (l : List ByteArray) (x : ByteArray) (k : Nat) (w : World) (hk : k < l.length) (hn : l.length ≤ 1000)
    (hc : ∀ j (h : j < l.length), w.cell? ⟨g, j, none⟩ = some (.string l[j])) (hno : ∀ j (h : j < k), (x.toList == (l[j]'(by omega)).toList) = false) (hyes : (x.toList == l[k].toList) = true) :
    Calls Tryz.prog 43 #[.slice (some ⟨g, 0, none⟩) l.length cap, .string x] w fun e w' => e = .returned (.int .i64 k) ∧ w = w' := by
 obtain ⟨n, hnn⟩ : ∃ n, n = l.length := ⟨_, rfl⟩
 have hkn : k < n := by omega
 have hn' : n ≤ 1000 := by omega
 have HN := Lib.hid hnn
 rw [← hnn]
 have HC := Lib.hid hc; have HNO := Lib.hid hno; have HY := Lib.hid hyes
 clear hc hno hyes hnn hn
 go_enter Tryz.func43, Tryz.ntmps43
 go_wp2
 go_loop [5, 8] (fun _ i => ∃ j : Nat, j ≤ k ∧ i = .int .i64 j) (fun _ i => k - (intOf i).toNat)
 case atStart => exact ⟨0, Nat.zero_le _, rfl⟩
 case round =>
  obtain ⟨j, hj, rfl⟩ := hrel
  have hc := HC.out j (by rw [← HN.out]; omega)
  by_cases hlt : j < k
  ·have hd := HNO.out j hlt
   go_wp2
   go_round
   case rel => exact ⟨j + 1, by omega, by go_num⟩
   case measure => simp [intOf]; omega
  ·obtain rfl : j = k := by omega
   have hd := HY.out
   go_wp2
   go_ret
   exact ⟨rfl, rfl⟩
def NamesAt (w : World) : Prop := ∀ j (h : j < flNames.length), w.cell? ⟨4, j, none⟩ = some (.string flNames[j])
theorem NamesAt.of_below {B : Nat} {w w' : World} (h : NamesAt w) (hb : Below B w w') (hB : 4 < B) : NamesAt w' := fun j hj => (hb.cell (p := ⟨4, j, none⟩) hB).trans (h j hj)
theorem index_name (k : Nat) (hk : k < 5) (w : World) (hN : NamesAt w) :
    Calls Tryz.prog 43 #[.slice (some ⟨4, 0, none⟩) 5 5, .string (flNames[k]'hk)] w fun e w' => e = .returned (.int .i64 k) ∧ w = w' := by
 refine index_hit 4 5 flNames (flNames[k]'hk) k w hk (by decide) hN (fun j hj => ?_) (by simp)
 have : ∀ k (hk : k < 5) j (hj : j < k), ((flNames[k]'hk).data.toList == (flNames[j]'(Nat.lt_trans hj hk)).data.toList) = false := by decide
 rw [ByteArray.toList_eq, ByteArray.toList_eq]
 exact this k hk j hj
def flOf (ks : List Nat) : Nat := ks.foldl (fun o k => o ||| 1 <<< k) 0
theorem or_i64 (a b : Nat) (ha : a < 32) (hb : b < 32) : bits .or .i64 (a : Int) (b : Int) = ((a ||| b : Nat) : Int) := by
 have : ∀ a : Nat, a < 32 → ∀ b : Nat, b < 32 → bits .or .i64 (a : Int) (b : Int) = ((a ||| b : Nat) : Int) := by decide +kernel
 exact this a ha b hb
theorem or_shl (o k : Nat) (ho : o < 32) (hk : k < 5) : bits .or .i64 (o : Int) (wrap64 (2 ^ k)) = ((o ||| 1 <<< k : Nat) : Int) := by
 have h1 : ∀ k : Nat, k < 5 → wrap64 ((2 : Int) ^ k) = ((1 <<< k : Nat) : Int) ∧ 1 <<< k < 32 := by decide +kernel
 rw [(h1 k hk).1]
 exact or_i64 o _ ho (h1 k hk).2
def nmV (k : Nat) : ByteArray := flNames.getD k ⟨#[]⟩
theorem nmV_get (k : Nat) (hk : k < 5) : nmV k = flNames[k]'hk := by
 have : ∀ k (hk : k < 5), nmV k = flNames[k]'hk := by decide
 exact this k hk
end Go.Proofs.YtmkppkjikifdlaaGreatDoor
