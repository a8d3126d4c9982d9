/- From a row's list, and the world's shape, to what the variables of Go's library hold. -/
import Derived.Test.YtmmaolhmhdjldaaDoorParseW
import Derived.Stop.LaidErr
namespace Go.Proofs.YtmmaolhmhdjldaaDoor.AgeW
open Go.RowKit Go.Proofs.YtmmaolhmhdjldaaDoor.NT

theorem gES : Tryd.prog.globalNamed "strconv.ErrSyntax" = some 1 := by kernel_rfl
theorem gER : Tryd.prog.globalNamed "strconv.ErrRange" = some 2 := by kernel_rfl
theorem gESType : (Tryd.prog.globals[1]?).map (·.type) = some 58 := by kernel_rfl
theorem gERType : (Tryd.prog.globals[2]?).map (·.type) = some 58 := by kernel_rfl
theorem cells117 : Tryd.prog.cellsOf 117 = 1 := by kernel_rfl
theorem cells9 : Tryd.prog.cellsOf 9 = 1 := by kernel_rfl
theorem star : "*" ++ "errors.errorString" = "*errors.errorString" := by decide
theorem row115 (u : TypeId) (h : Tryd.prog.typeName? 3 u = some "*errors.errorString") : u = 115 :=
  typeName_ptr_named (nm := "errors.errorString") (by rw [star]; kernel_rfl) (by kernel_rfl) (by decide) u (by rw [star]; exact h)

theorem errs_of_met {W : World} {l : List (String × DataW Unit)} (h : laidMet Tryd.prog l W) {n : String} {g : Nat} {text : List UInt8} (hg : Tryd.prog.globalNamed n = some g) (hT : (Tryd.prog.globals[g]?).map (·.type) = some 58)
    (hl : l.filter (fun x => x.1 == n) = [(n, .iface "*errors.errorString" (.ptr (.agg [.lit (.string text)])))]) : ∃ t p, W.cell? ⟨g, 0, none⟩ = some (.iface t p) := by
  have h' := laidMet.filter (fun x => x.1 == n) h
  rw [hl] at h'
  obtain ⟨a0, s0, hv0, -, -, -⟩ := laid_sentinel h' hg hT Tryd.underlying58 row115 Tryd.underlying115 Tryd.underlying117 rfl rfl Tryd.underlying9 cells117 cells9
  exact ⟨_, _, by have h0 := World.var?_cell hg hv0 0; simpa using h0⟩

theorem env_of_met {W : World} {l : List (String × DataW Unit)} (h : laidMet Tryd.prog l W) (hsh : W.ShapedOpen Tryd.prog)
    (hl : l.filter (fun x => x.1 == "internal/strconv.uint64pow10") = [("internal/strconv.uint64pow10", Lib.tabData .u64 Lib.pow10Tab)])
    (h1 : l.filter (fun x => x.1 == "strconv.ErrSyntax") = [("strconv.ErrSyntax", .iface "*errors.errorString" (.ptr (.agg [.lit (.string [105, 110, 118, 97, 108, 105, 100, 32, 115, 121, 110, 116, 97, 120])])))])
    (h2 : l.filter (fun x => x.1 == "strconv.ErrRange") = [("strconv.ErrRange", .iface "*errors.errorString" (.ptr (.agg [.lit (.string [118, 97, 108, 117, 101, 32, 111, 117, 116, 32, 111, 102, 32, 114, 97, 110, 103, 101])])))]) : Env W :=
  ⟨tab_of_met h hl, Tryd.laysM145.s1_3 W hsh, errs_of_met h gES gESType h1, errs_of_met h gER gERType h2⟩
end Go.Proofs.YtmmaolhmhdjldaaDoor.AgeW
