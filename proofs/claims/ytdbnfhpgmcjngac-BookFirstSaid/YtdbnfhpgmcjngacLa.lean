/- The laws on trees: their walks. -/
import Derived.Test.YtdbnfhpgmcjngacWf
import Derived.Test.YtdbnfhpgmcjngacGn
namespace Go.Proofs.Ytdbnfhpgmcjngac
open Go Go.RowKit

def tBeg : Tr := .node ⟨#[97]⟩ [.node ⟨#[98]⟩ [], .node ⟨#[99]⟩ [.node ⟨#[100]⟩ []]]

def kBeg : List Tr := [.node ⟨#[98]⟩ [], .node ⟨#[99]⟩ [.node ⟨#[100]⟩ []]]
theorem beg_at : ((Tr.node ⟨#[97]⟩ kBeg).at? [1, 0]) = some (.node ⟨#[100]⟩ []) := by decide
theorem beg_fault : (fault (.node ⟨#[97]⟩ kBeg) : Int) = 0 := by decide
theorem zero_fault : (fault (.node ⟨#[]⟩ []) : Int) = 1 := by decide
theorem beg_size : Tr.szL kBeg + 1 = 4 := by decide
theorem beg_self : (Tr.node ⟨#[97]⟩ kBeg).beq (.node ⟨#[97]⟩ kBeg) = true := by decide
theorem beg_ne : (Tr.node ⟨#[97]⟩ kBeg).beq (.node ⟨#[100]⟩ []) = false := by decide
theorem abc_lab : isLab ⟨#[97, 98, 99]⟩ = true := by decide

end Go.Proofs.Ytdbnfhpgmcjngac
