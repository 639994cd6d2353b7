/- Plain: the fixed examples. -/
import Derived.Test.YthgbdpiihdhfiaaNet6
import Derived.KernelRfl
namespace Go.Proofs.Ythgbdpiihdhfiaa
def x1 : List Db := [⟨0, 1, 5, 1⟩, ⟨1, 2, 5, 1⟩]
def x2 : List Db := [⟨0, 1, 5, 1⟩, ⟨1, 2, 5, 1⟩, ⟨2, 0, 5, 1⟩]
def x3 : List Db := [⟨0, 1, 1, 2⟩, ⟨1, 0, 1, 3⟩]
def x4 : List Db := [⟨0, 2, 4, 1⟩, ⟨1, 2, 3, 1⟩]
def x5 : List Db := [⟨0, 1, 1, 2⟩, ⟨1, 0, 2, 3⟩, ⟨1, 2, 5, 1⟩]
def x6 : List Db := [⟨0, 3, 5, 1⟩]
theorem x1_v : validD 3 x1 = true := by decide +kernel
theorem x2_v : validD 3 x2 = true := by decide +kernel
theorem x3_v : validD 3 x3 = true := by decide +kernel
theorem x4_v : validD 3 x4 = true := by decide +kernel
theorem x5_v : validD 3 x5 = true := by decide +kernel
theorem x6_v : validD 3 x6 = false := by decide +kernel
theorem x1_n : (posF x1 3).bind (fun qs => netF 4 qs []) = some [⟨0, 2, 5, 1⟩] := by kernel_rfl
theorem x2_n : (posF x2 3).bind (fun qs => netF 4 qs []) = some [] := by kernel_rfl
theorem x3_n : (posF x3 3).bind (fun qs => netF 4 qs []) = some [⟨0, 1, 1, 6⟩] := by kernel_rfl
theorem x4_n : (posF x4 3).bind (fun qs => netF 4 qs []) = some [⟨0, 2, 4, 1⟩, ⟨1, 2, 3, 1⟩] := by kernel_rfl
theorem x5_p : prF x5 3 3 = some [⟨1, 0, 1, 6⟩, ⟨1, 2, 5, 1⟩] := by kernel_rfl
end Go.Proofs.Ythgbdpiihdhfiaa
