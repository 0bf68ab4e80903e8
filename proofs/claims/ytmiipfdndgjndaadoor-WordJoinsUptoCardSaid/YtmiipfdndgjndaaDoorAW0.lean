/- Closed facts for awake. -/
import Derived.Test.YtmiipfdndgjndaaDoorY
namespace Go.Proofs.YtmiipfdndgjndaaDoor
set_option maxRecDepth 100000
def sRead : ByteArray := ⟨#[91, 49, 32, 50]⟩
theorem aw_read : (readF sRead).2.1 = 4 ∧ (readF sRead).2.2 = 30 := by decide +kernel
def sUnq : ByteArray := ⟨#[34, 97, 34]⟩
theorem aw_unq : (unquoteF sUnq).1 = [97] ∧ (unquoteF sUnq).2.1 = 0 ∧ (unquoteF sUnq).2.2 = 0 := by decide +kernel
def sCut : ByteArray := ⟨#[120, 32, 61, 32, 35, 51]⟩
theorem aw_cut : (cutF sCut).1.length = 3 ∧ (cutF sCut).2.1 = 0 ∧ (cutF sCut).2.2 = 0 := by decide +kernel
def lJoin : List T := [⟨1, 0, 0, ⟨#[97]⟩, 0⟩, ⟨5, 0, 0, ⟨#[91]⟩, 0⟩]
theorem aw_join : (joinF lJoin).1 = [97, 32, 91] ∧ (joinF lJoin).2 = 0 := by decide +kernel
theorem aw_quote : quoteL [10] = [34, 92, 110, 34] := by decide +kernel
def vText : V := .mk 3 0 ⟨#[]⟩ [.mk 1 1 ⟨#[]⟩ [] 0, .mk 3 0 ⟨#[]⟩ [] 0, .mk 4 0 ⟨#[]⟩ [] 2] 0
theorem aw_text : textL vText = [91, 49, 32, 91, 93, 32, 35, 50, 93] := by decide +kernel
end Go.Proofs.YtmiipfdndgjndaaDoor
