/- What the chapter's examples come to. -/
import Derived.Test.YtalncnblcfcmcaaDoorMcGet2
import Derived.Test.YtalncnblcfcmcaaDoorShHex
import Derived.KernelRfl
namespace Go.Proofs.YtalncnblcfcmcaaDoor
open Go.RowKit

namespace Mc
def xk : ByteArray := ⟨#[107, 101, 121]⟩
def xz : ByteArray := ⟨#[107, 101, 122]⟩
def xa : ByteArray := ⟨#[97]⟩
def xc : Cav := ⟨1, 2⟩
def xs0 : ByteArray := signB xk xa
def xs1 : ByteArray := signB xs0 (putc xc)
def xp : ByteArray := put xa [xc] xs1
def xj : ByteArray := ⟨#[74, 101, 102, 101]⟩
def xw : ByteArray := ⟨#[119, 104, 97, 116, 32, 100, 111, 32, 121, 97, 32, 119, 97, 110, 116, 32, 102, 111, 114, 32, 110, 111, 116, 104, 105, 110, 103, 63]⟩
def xh : ByteArray := ⟨#[53, 98, 100, 99, 99, 49, 52, 54, 98, 102, 54, 48, 55, 53, 52, 101, 54, 97, 48, 52, 50, 52, 50, 54, 48, 56, 57, 53, 55, 53, 99, 55, 53, 97, 48, 48, 51, 102, 48, 56, 57, 100, 50, 55, 51, 57, 56, 51, 57, 100, 101, 99, 53, 56, 98, 57, 54, 52, 101, 99, 51, 56, 52, 51]⟩
theorem ex_hex : (⟨(Sh.hex (signB xj xw).data.toList).toArray⟩ : ByteArray) = xh := by kernel_rfl
theorem ex_c0 : check xk xa [] xs0 = true := by kernel_rfl
theorem ex_c1 : check xk xa [xc] xs1 = true := by kernel_rfl
theorem ex_c2 : check xz xa [xc] xs1 = false := by kernel_rfl
theorem ex_a0 : allows [] 7 99 = true := by kernel_rfl
theorem ex_a1 : allows [xc] 1 0 = false := by kernel_rfl
theorem ex_a2 : allows [xc] 2 9 = true := by kernel_rfl
theorem ex_p0 : put ⟨#[]⟩ [] ⟨#[]⟩ = ⟨#[]⟩ := by kernel_rfl
theorem ex_ps : xp.size = 37 := by kernel_rfl
theorem ex_get : getR (⟨#[120]⟩ ++ xp) 1 = (⟨xa, [xc], xs1, 38⟩, true) := by kernel_rfl
theorem ex_sz : xk.size = 3 ∧ xz.size = 3 ∧ xa.size = 1 ∧ xj.size = 4 ∧ xw.size = 28 := by decide
theorem ex_s0 : xs0.size = 32 := rfl
theorem ex_s1 : xs1.size = 32 := rfl
end Mc

end Go.Proofs.YtalncnblcfcmcaaDoor
