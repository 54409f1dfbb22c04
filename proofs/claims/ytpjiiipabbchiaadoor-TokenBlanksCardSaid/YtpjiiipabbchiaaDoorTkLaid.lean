/-
  DERIVED. What the seat's listed variables give the walks of token.
-/
import Derived.Test.YtpjiiipabbchiaaDoorRows
import Derived.Test.YtpjiiipabbchiaaDoorBase
import Derived.Test.YtpjiiipabbchiaaDoorShelf
import Derived.Lib.LaidTab
import Derived.Stop.LaidErr
import Derived.LaidLaws
namespace Go.Proofs.YtpjiiipabbchiaaDoor.Tk

theorem tabMet {rest : List (String × DataW Unit)} {W : World} (h : laidMet Tryd.prog (("internal/strconv.uint64pow10", Rows.laid_internal_strconv_uint64pow10) :: rest) W) : Lib.TabIs Tryd.prog W "internal/strconv.uint64pow10" .u64 Lib.pow10Tab :=
  Lib.tabIs_of_head (g := 1) (t := 94) (e := 82) (n := 20) (rest := rest) (by kernel_rfl) (by kernel_rfl) Tryd.underlying94 Tryd.underlying82 (by kernel_rfl) (by kernel_rfl) h
theorem errMet {n nm : String} {d : DataW Unit} {rest : List (String × DataW Unit)} {W : World} (h : laidMet Tryd.prog ((n, .iface nm d) :: rest) W) (hg : Tryd.prog.globalNamed n = some 5) : ∃ te pe, W.cell? ⟨5, 0, none⟩ = some (.iface te pe) := by
  obtain ⟨ps, ⟨g0, t0, cs0, f0, p0, q0, hg0, ht0, hv0, hd0, _, e0⟩, _, hrows⟩ := h
  obtain rfl := Option.some.inj (hg.symm.trans hg0)
  obtain rfl := Option.some.inj ((show (Tryd.prog.globals[5]?).map (·.type) = some 50 by kernel_rfl).symm.trans ht0)
  obtain ⟨l0⟩ := cs0
  obtain ⟨f, u, v, hl, _, _⟩ := iface_of_trod Tryd.underlying50 hd0
  have h0 := World.var?_cell hg hv0 0
  refine ⟨u, v, h0.trans ?_⟩
  have : l0 = [.iface u v] := hl
  subst this
  rfl
end Go.Proofs.YtpjiiipabbchiaaDoor.Tk
