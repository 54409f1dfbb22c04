/- On the way. -/
import Derived.Test.YtmkppkjikifdlaaGreatDoorRows
import Derived.Test.YtmkppkjikifdlaaGreatDoorTKtA
import Derived.Test.YtmkppkjikifdlaaGreatDoorTShelf
import Derived.Lib.LaidTab
import Derived.Stop.LaidErr
import Derived.LaidLaws
set_option linter.unusedVariables false
set_option linter.unusedSimpArgs false
namespace Go.Proofs.YtmkppkjikifdlaaGreatDoor.Tk
theorem tabMet {rest : List (String × DataW Unit)} {W : World} (h : laidMet Tryz.prog (("internal/strconv.uint64pow10", Rows.laid_internal_strconv_uint64pow10) :: rest) W) : Lib.TabIs Tryz.prog W "internal/strconv.uint64pow10" .u64 Lib.pow10Tab :=
 Lib.tabIs_of_head (g := 11) (t := 361) (e := 307) (n := 20) (rest := rest) (by kernel_rfl) (by kernel_rfl) Tryz.underlying361 Tryz.underlying307 (by kernel_rfl) (by kernel_rfl) h
theorem errMet {n nm : String} {d : DataW Unit} {rest : List (String × DataW Unit)} {W : World} (h : laidMet Tryz.prog ((n, .iface nm d) :: rest) W) (hg : Tryz.prog.globalNamed n = some 10) : ∃ te pe, W.cell? ⟨10, 0, none⟩ = some (.iface te pe) := by
 obtain ⟨ps, ⟨g0, t0, cs0, f0, p0, q0, hg0, ht0, hv0, hd0, _, e0⟩, _, hrows⟩ := h
 obtain rfl := Option.some.inj (hg.symm.trans hg0)
 obtain rfl := Option.some.inj ((show (Tryz.prog.globals[10]?).map (·.type) = some 225 by kernel_rfl).symm.trans ht0)
 obtain ⟨l0⟩ := cs0
 obtain ⟨f, u, v, hl, _, _⟩ := iface_of_trod Tryz.underlying225 hd0
 have h0 := World.var?_cell hg hv0 0
 refine ⟨u, v, h0.trans ?_⟩
 have : l0 = [.iface u v] := hl
 subst this
 rfl
end Go.Proofs.YtmkppkjikifdlaaGreatDoor.Tk
