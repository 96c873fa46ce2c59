/- The examples of layer 15's chapter, reckoned. -/
import Derived.Test.YtohkbblfcjmmnaaGreatDoorHit
namespace Go.Proofs.YtohkbblfcjmmnaaGreatDoor
open Go Go.RowKit
set_option maxRecDepth 100000
def M.qA : St := M.mk15 2 101
def M.qB : St := M.mk15 8 101
def M.qC : St := M.mk15 5 300
theorem M.k15a : M.lostR 9 1 M.mG M.mP M.qA 0 [M.qB] = ([0, 3, 4, 5], 0) := by decide +kernel
theorem M.k15b : M.peoR 9 1 M.mG M.mP M.qA 0 [M.qB] = (40, 0) := by decide +kernel
theorem M.k15c : M.peoR 9 1 M.mG M.mP M.qA 1 [M.qB] = (0, 0) := by decide +kernel
theorem M.k15d : M.peoR 9 1 M.mG M.mP M.qA 1 [M.qC] = (60, 0) := by decide +kernel
theorem M.k15e : M.excR 9 1 M.mG M.mP M.qA M.qB 0 666 = (true, 0) := by decide +kernel
theorem M.k15f : M.excR 9 1 M.mG M.mP M.qA M.qB 0 667 = (false, 0) := by decide +kernel
theorem M.k15g : M.peoR 9 1 M.mG M.mP M.qA 0 [M.qB, M.qC] = (60, 0) := by decide +kernel
theorem M.k15h : M.peoR 9 1 M.mG M.mP M.qA 0 [] = (0, 0) := by decide +kernel
theorem M.k15i : M.hitR 9 1 M.mG M.mP M.qA M.qB 0 9 = (false, 2) := by decide +kernel
end Go.Proofs.YtohkbblfcjmmnaaGreatDoor
