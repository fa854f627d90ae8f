/- The library's variables as the cards lay them: what the walks ask of the world. -/
import Derived.Test.YtffamppgnooaeaaDoorRows
import Derived.Test.YtffamppgnooaeaaDoorRuParse
import Derived.PinnedBridge
import Derived.Lib.LaidU8T
import Derived.Lay
import Derived.LaidOnce
import Derived.KernelRfl
namespace Go.Proofs.YtffamppgnooaeaaDoor
open Go.Shelf Go.RowKit Go.Lib
set_option linter.unusedVariables false

theorem cell_of_iface {H : Type} {enc : TypeId × Value → H} {P : Program} {w : World} {base : Nat} {sp : Nat → Bool} {held : Bool} {fuel : Nat} {t : TypeId} {cs : List Value} {nm : String} {d : DataW H} {p : List MemPlace} {ms}
    (ht : P.underlying t = some (.interface ms)) (h : DataW.trod enc P w base sp held fuel t cs = some (.iface nm d, p)) : ∃ u v, cs = [.iface u v] := by
  cases fuel with
  | zero => simp [DataW.trod] at h
  | succ fuel =>
    simp only [DataW.trod, ht] at h
    split at h
    all_goals first | exact ⟨_, _, rfl⟩ | cases h | skip
    all_goals simp_all
set_option maxRecDepth 100000 in
theorem accept_eq : (Rows.laid_unicode_utf8_acceptRanges : DataW Unit) = Lib.acceptData := by kernel_rfl
set_option maxRecDepth 100000 in
theorem vars_of_laid {w : World} (h : laidMet Tryd.prog Rows.runesReadRow.laid w) : Vars w := by
  refine ⟨?_, ?_⟩
  · exact utf8Tabs_of_readsT (U8Types.of196 lay196) ⟨by kernel_rfl, by kernel_rfl, by kernel_rfl, by kernel_rfl, by kernel_rfl, by kernel_rfl, by kernel_rfl⟩
      (Pinned.utf8First_eq ▸ Lib.laidMet.reads h (.tail _ (.tail _ (.tail _ (.tail _ (.tail _ (.tail _ (.head _)))))))) (accept_eq ▸ Lib.laidMet.reads h (.tail _ (.tail _ (.tail _ (.head _)))))
  · obtain ⟨g, t, cs, fuel, p, hg, hty, hvar, hd⟩ := Lib.laidMet.reads h (.tail _ (.tail _ (.tail _ (.tail _ (.tail _ (.head _))))))
    have e1 : Tryd.prog.globalNamed "strconv.ErrSyntax" = some 2 := by kernel_rfl
    obtain rfl := Option.some.inj (e1.symm.trans hg)
    have e2 : (Tryd.prog.globals[2]?).map (·.type) = some 44 := by kernel_rfl
    obtain rfl := Option.some.inj (e2.symm.trans hty)
    obtain ⟨u, v, hc⟩ := cell_of_iface Tryd.underlying44 hd
    refine ⟨u, v, ?_⟩
    rw [World.var?_cell hg hvar 0, ← Array.getElem?_toList, hc]
    rfl
end Go.Proofs.YtffamppgnooaeaaDoor
