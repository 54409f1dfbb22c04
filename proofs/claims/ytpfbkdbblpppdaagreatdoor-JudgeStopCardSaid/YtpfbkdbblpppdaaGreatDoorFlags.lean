/-
  DERIVED. slices.Index at strings, 'Flags' of rule: what they answer.
-/
import Derived.Test.YtpfbkdbblpppdaaGreatDoorBase
import Derived.Test.YtpfbkdbblpppdaaGreatDoorKit
set_option linter.unusedVariables false
set_option linter.unusedSimpArgs false
namespace Go.Proofs.YtpfbkdbblpppdaaGreatDoor
open Go.RowKit

/-- the first place of a text in a list; -1: there is none -/
def sIdx (x : ByteArray) : List ByteArray → Int
  | [] => -1
  | s :: l => if x.toList == s.toList then 0 else if sIdx x l = -1 then -1 else sIdx x l + 1

/-- the flags' names -/
def flNames : List ByteArray := [⟨#[92, 83, 101, 101, 110]⟩, ⟨#[92, 65, 110, 115, 119, 101, 114, 101, 100]⟩, ⟨#[92, 70, 108, 97, 103, 103, 101, 100]⟩, ⟨#[92, 68, 101, 108, 101, 116, 101, 100]⟩, ⟨#[92, 68, 114, 97, 102, 116]⟩]

/-- the cells of a row of texts -/
def scells (l : List ByteArray) : List Value := l.map Value.string
theorem scells_get (l : List ByteArray) (j : Nat) (h : j < l.length) : (scells l)[j]? = some (.string l[j]) := by simp [scells, h]

set_option maxHeartbeats 1000000 in
/-- a search that finds: 'hno': none ahead of k is x; the one at k is -/
theorem index_hit (g cap : Nat) (l : List ByteArray) (x : ByteArray) (k : Nat) (w : World) (hk : k < l.length) (hn : l.length ≤ 1000)
    (hc : ∀ j (h : j < l.length), w.cell? ⟨g, j, none⟩ = some (.string l[j])) (hno : ∀ j (h : j < k), (x.toList == (l[j]'(by omega)).toList) = false) (hyes : (x.toList == l[k].toList) = true) :
    Calls Tryz.prog 96 #[.slice (some ⟨g, 0, none⟩) l.length cap, .string x] w fun e w' => e = .returned (.int .i64 k) ∧ w = w' := by
  obtain ⟨n, hnn⟩ : ∃ n, n = l.length := ⟨_, rfl⟩
  have hkn : k < n := by omega
  have hn' : n ≤ 1000 := by omega
  have HN := Lib.hid hnn
  rw [← hnn]
  have HC := Lib.hid hc; have HNO := Lib.hid hno; have HY := Lib.hid hyes
  clear hc hno hyes hnn hn
  go_enter Tryz.func96, Tryz.ntmps96
  go_wp2
  go_loop [5, 8] (fun _ i => ∃ j : Nat, j ≤ k ∧ i = .int .i64 j) (fun _ i => k - (intOf i).toNat)
  case atStart => exact ⟨0, Nat.zero_le _, rfl⟩
  case round =>
    obtain ⟨j, hj, rfl⟩ := hrel
    have hc := HC.out j (by rw [← HN.out]; omega)
    by_cases hlt : j < k
    · have hd := HNO.out j hlt
      go_wp2
      go_round
      case rel => exact ⟨j + 1, by omega, by go_num⟩
      case measure => simp [intOf]; omega
    · obtain rfl : j = k := by omega
      have hd := HY.out
      go_wp2
      go_ret
      exact ⟨rfl, rfl⟩

/-- the table of names lies where it was laid -/
def NamesAt (w : World) : Prop := ∀ j (h : j < flNames.length), w.cell? ⟨2, j, none⟩ = some (.string flNames[j])
theorem NamesAt.of_below {B : Nat} {w w' : World} (h : NamesAt w) (hb : Below B w w') (hB : 2 < B) : NamesAt w' := fun j hj => (hb.cell (p := ⟨2, j, none⟩) hB).trans (h j hj)

/-- the k-th name is found at k -/
theorem index_name (k : Nat) (hk : k < 5) (w : World) (hN : NamesAt w) :
    Calls Tryz.prog 96 #[.slice (some ⟨2, 0, none⟩) 5 5, .string (flNames[k]'hk)] w fun e w' => e = .returned (.int .i64 k) ∧ w = w' := by
  refine index_hit 2 5 flNames (flNames[k]'hk) k w hk (by decide) hN (fun j hj => ?_) (by simp)
  have : ∀ k (hk : k < 5) j (hj : j < k), ((flNames[k]'hk).data.toList == (flNames[j]'(Nat.lt_trans hj hk)).data.toList) = false := by decide
  rw [ByteArray.toList_eq, ByteArray.toList_eq]
  exact this k hk j hj

/-- the flags of names, by their numbers -/
def flOf (ks : List Nat) : Nat := ks.foldl (fun o k => o ||| 1 <<< k) 0
theorem flOf_snoc (ks : List Nat) (k : Nat) : flOf (ks ++ [k]) = flOf ks ||| 1 <<< k := by simp [flOf]
theorem flOf_lt : ∀ (ks : List Nat), (∀ k ∈ ks, k < 5) → flOf ks < 32 := by
  intro ks h
  have : ∀ (ks : List Nat) (o : Nat), o < 2 ^ 5 → (∀ k ∈ ks, k < 5) → ks.foldl (fun o k => o ||| 1 <<< k) o < 2 ^ 5 := by
    intro ks
    induction ks with
    | nil => intro o ho _; exact ho
    | cons k ks ih =>
      intro o ho hk
      refine ih _ (Nat.or_lt_two_pow ho ?_) (fun j hj => hk j (by simp [hj]))
      have : ∀ k, k < 5 → 1 <<< k < 2 ^ 5 := by decide
      exact this k (hk k (by simp))
  exact this ks 0 (by decide) h
theorem or_i64 (a b : Nat) (ha : a < 32) (hb : b < 32) : bits .or .i64 (a : Int) (b : Int) = ((a ||| b : Nat) : Int) := by
  have : ∀ a : Nat, a < 32 → ∀ b : Nat, b < 32 → bits .or .i64 (a : Int) (b : Int) = ((a ||| b : Nat) : Int) := by decide +kernel
  exact this a ha b hb
theorem or_shl (o k : Nat) (ho : o < 32) (hk : k < 5) : bits .or .i64 (o : Int) (wrap64 (2 ^ k)) = ((o ||| 1 <<< k : Nat) : Int) := by
  have h1 : ∀ k : Nat, k < 5 → wrap64 ((2 : Int) ^ k) = ((1 <<< k : Nat) : Int) ∧ 1 <<< k < 32 := by decide +kernel
  rw [(h1 k hk).1]
  exact or_i64 o _ ho (h1 k hk).2
/-- the k-th name, as a value -/
def nmV (k : Nat) : ByteArray := flNames.getD k ⟨#[]⟩
theorem nmV_get (k : Nat) (hk : k < 5) : nmV k = flNames[k]'hk := by
  have : ∀ k (hk : k < 5), nmV k = flNames[k]'hk := by decide
  exact this k hk

set_option maxHeartbeats 2000000 in
theorem flags_row (g cap : Nat) (ks : List Nat) (w : World) (hks : ∀ k ∈ ks, k < 5) (hn : ks.length ≤ 1000) (hN : NamesAt w)
    (hc : ∀ j (h : j < ks.length), w.cell? ⟨g, j, none⟩ = some (.string (nmV ks[j]))) :
    Calls Tryz.prog 124 #[.slice (some ⟨g, 0, none⟩) ks.length cap] w fun e w' => e = .returned (.tuple #[.int .i64 (flOf ks), .int .i64 0]) ∧ w = w' := by
  obtain ⟨n, hnn⟩ : ∃ n, n = ks.length := ⟨_, rfl⟩
  have hn' : n ≤ 1000 := by omega
  rw [← hnn]
  have HL := Lib.hid hnn
  have HC := Lib.hid hc; have HK := Lib.hid hks; have HN := Lib.hid hN
  clear hc hks hN hnn hn
  go_enter Tryz.func124, Tryz.ntmps124
  go_wp2
  go_loop [4, 6, 7, 10] (fun o _ _ i => ∃ j : Nat, j ≤ n ∧ i = .int .i64 j ∧ o = .int .i64 (flOf (ks.take j))) (fun _ _ _ i => n - (intOf i).toNat)
  case atStart => exact ⟨0, Nat.zero_le _, rfl, rfl⟩
  case round =>
    obtain ⟨j, hj, rfl, rfl⟩ := hrel
    by_cases hlt : j < n
    · have hjl : j < ks.length := by rw [← HL.out]; exact hlt
      have hkj : ks[j] < 5 := HK.out _ (List.getElem_mem hjl)
      have hc := HC.out j hjl
      have hol : flOf (ks.take j) < 32 := flOf_lt _ (fun k hk => HK.out k (List.mem_of_mem_take hk))
      have HS : Hid (flOf (ks.take (j + 1)) = flOf (ks.take j) ||| 1 <<< ks[j]) := by
        unfold Hid; rw [List.take_succ_eq_append_getElem hjl, flOf_snoc]
      obtain ⟨o, ho⟩ : ∃ o, o = flOf (ks.take j) := ⟨_, rfl⟩
      rw [← ho] at hol HS ⊢
      clear ho
      obtain ⟨k, hk⟩ : ∃ k, k = ks[j] := ⟨_, rfl⟩
      rw [← hk] at hkj hc HS
      clear hk
      have HOR := Lib.hid (or_shl o k hol hkj)
      have HI := Lib.hid (index_name k hkj w HN.out)
      rw [nmV_get k hkj] at hc
      go_wp2_with fail
      refine HI.out.mono ?_
      rintro e w1 ⟨rfl, rfl⟩
      go_wp2
      go_round
      case rel => exact ⟨j + 1, by omega, by go_num, by rw [HOR.out, HS.out]⟩
      case measure => simp [intOf]; omega
    · obtain rfl : j = n := by omega
      have HE : Hid (flOf (ks.take j) = flOf ks) := by unfold Hid; rw [HL.out, List.take_length]
      go_wp2
      go_ret2
      exact ⟨by rw [← HE.out]; rfl, rfl⟩

set_option maxHeartbeats 1000000 in
theorem flags_nil (w : World) :
    Calls Tryz.prog 124 #[.slice none 0 0] w fun e w' => e = .returned (.tuple #[.int .i64 (flOf []), .int .i64 0]) ∧ w = w' := by
  go_enter Tryz.func124, Tryz.ntmps124
  go_wp2
  refine wp_loop_rounds 1 ?_
  rw [rounds_succ]
  go_wp2
  go_ret2
  exact ⟨rfl, rfl⟩
/-- a slice that owns names -/
theorem flags_own {w : World} {base : Nat} {v : Value} {ks : List Nat} (h : w.ownsRow base 9 1 v ks.length (scells (ks.map nmV))) (hks : ∀ k ∈ ks, k < 5) (hn : ks.length ≤ 1000) (hN : NamesAt w) :
    Calls Tryz.prog 124 #[v] w fun e w' => e = .returned (.tuple #[.int .i64 (flOf ks), .int .i64 0]) ∧ w = w' := by
  have h0 := h
  rcases h.2 with ⟨rfl, hl⟩ | ⟨g, cap, cur, rfl, _, hg, _, _, _, htake⟩
  · obtain rfl : ks = [] := List.eq_nil_of_length_eq_zero hl
    exact flags_nil w
  · refine flags_row g cap ks w hks hn hN fun j hj => ?_
    have hc := World.ownsRow.cells h0 (g := g) rfl j _ (scells_get _ j (by simpa using hj))
    simp only [Addr.add_lit, Nat.zero_add] at hc
    rw [hc]; simp
end Go.Proofs.YtpfbkdbblpppdaaGreatDoor
