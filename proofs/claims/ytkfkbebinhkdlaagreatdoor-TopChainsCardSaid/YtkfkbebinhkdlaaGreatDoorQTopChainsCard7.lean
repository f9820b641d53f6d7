/- Texts of this claim, joined: D82 to D34c35. -/
import Derived.KernelRfl
import Derived.LoopTactic
import Derived.Test.YtkfkbebinhkdlaaGreatDoorProg
import Derived.WalkKit
import Derived.Test.YtkfkbebinhkdlaaGreatDoorQTopChainsCard6
set_option linter.unusedVariables false
set_option linter.unusedSimpArgs false
set_option maxRecDepth 100000
namespace Go.Proofs.YtkfkbebinhkdlaaGreatDoor
open Go.Vi
/-D 82 -/
noncomputable def D82 (n : Nat × Nat) (x0 : Int) : Option R82 :=
 (bif decide (1 < 0) then none
 else (bif decide (2 < 0) then none
 else (bif decide (4 < 0) then none
 else (bif decide (8 < 0) then none
 else (bif decide (16 < 0) then none
 else (bif decide (32 < 0) then none
 else some (wr .i64 (BitVec.ofInt (IntKind.bits .i64) (wr .i64 (wr .u64 ((wr .u64 ((wr .u64 ((wr .u64 (BitVec.ofInt (IntKind.bits .u64) (wr .u64 ((Int.fdiv (wr .u64 ((wr .u64 (BitVec.ofInt (IntKind.bits .u64) (Int.fdiv (wr .u64 ((wr .u64 (BitVec.ofInt (IntKind.bits .u64) (Int.fdiv x0 (2 ^ (min (Int.toNat 1) (IntKind.bits .u64)))) &&& BitVec.ofInt (IntKind.bits .u64) 6148914691236517205).toNat) + (wr .u64 (BitVec.ofInt (IntKind.bits .u64) x0 &&& BitVec.ofInt (IntKind.bits .u64) 6148914691236517205).toNat))) (2 ^ (min (Int.toNat 2) (IntKind.bits .u64)))) &&& BitVec.ofInt (IntKind.bits .u64) 3689348814741910323).toNat) + (wr .u64 (BitVec.ofInt (IntKind.bits .u64) (wr .u64 ((wr .u64 (BitVec.ofInt (IntKind.bits .u64) (Int.fdiv x0 (2 ^ (min (Int.toNat 1) (IntKind.bits .u64)))) &&& BitVec.ofInt (IntKind.bits .u64) 6148914691236517205).toNat) + (wr .u64 (BitVec.ofInt (IntKind.bits .u64) x0 &&& BitVec.ofInt (IntKind.bits .u64) 6148914691236517205).toNat))) &&& BitVec.ofInt (IntKind.bits .u64) 3689348814741910323).toNat))) (2 ^ (min (Int.toNat 4) (IntKind.bits .u64)))) + (wr .u64 ((wr .u64 (BitVec.ofInt (IntKind.bits .u64) (Int.fdiv (wr .u64 ((wr .u64 (BitVec.ofInt (IntKind.bits .u64) (Int.fdiv x0 (2 ^ (min (Int.toNat 1) (IntKind.bits .u64)))) &&& BitVec.ofInt (IntKind.bits .u64) 6148914691236517205).toNat) + (wr .u64 (BitVec.ofInt (IntKind.bits .u64) x0 &&& BitVec.ofInt (IntKind.bits .u64) 6148914691236517205).toNat))) (2 ^ (min (Int.toNat 2) (IntKind.bits .u64)))) &&& BitVec.ofInt (IntKind.bits .u64) 3689348814741910323).toNat) + (wr .u64 (BitVec.ofInt (IntKind.bits .u64) (wr .u64 ((wr .u64 (BitVec.ofInt (IntKind.bits .u64) (Int.fdiv x0 (2 ^ (min (Int.toNat 1) (IntKind.bits .u64)))) &&& BitVec.ofInt (IntKind.bits .u64) 6148914691236517205).toNat) + (wr .u64 (BitVec.ofInt (IntKind.bits .u64) x0 &&& BitVec.ofInt (IntKind.bits .u64) 6148914691236517205).toNat))) &&& BitVec.ofInt (IntKind.bits .u64) 3689348814741910323).toNat))))) &&& BitVec.ofInt (IntKind.bits .u64) 1085102592571150095).toNat) + (Int.fdiv (wr .u64 (BitVec.ofInt (IntKind.bits .u64) (wr .u64 ((Int.fdiv (wr .u64 ((wr .u64 (BitVec.ofInt (IntKind.bits .u64) (Int.fdiv (wr .u64 ((wr .u64 (BitVec.ofInt (IntKind.bits .u64) (Int.fdiv x0 (2 ^ (min (Int.toNat 1) (IntKind.bits .u64)))) &&& BitVec.ofInt (IntKind.bits .u64) 6148914691236517205).toNat) + (wr .u64 (BitVec.ofInt (IntKind.bits .u64) x0 &&& BitVec.ofInt (IntKind.bits .u64) 6148914691236517205).toNat))) (2 ^ (min (Int.toNat 2) (IntKind.bits .u64)))) &&& BitVec.ofInt (IntKind.bits .u64) 3689348814741910323).toNat) + (wr .u64 (BitVec.ofInt (IntKind.bits .u64) (wr .u64 ((wr .u64 (BitVec.ofInt (IntKind.bits .u64) (Int.fdiv x0 (2 ^ (min (Int.toNat 1) (IntKind.bits .u64)))) &&& BitVec.ofInt (IntKind.bits .u64) 6148914691236517205).toNat) + (wr .u64 (BitVec.ofInt (IntKind.bits .u64) x0 &&& BitVec.ofInt (IntKind.bits .u64) 6148914691236517205).toNat))) &&& BitVec.ofInt (IntKind.bits .u64) 3689348814741910323).toNat))) (2 ^ (min (Int.toNat 4) (IntKind.bits .u64)))) + (wr .u64 ((wr .u64 (BitVec.ofInt (IntKind.bits .u64) (Int.fdiv (wr .u64 ((wr .u64 (BitVec.ofInt (IntKind.bits .u64) (Int.fdiv x0 (2 ^ (min (Int.toNat 1) (IntKind.bits .u64)))) &&& BitVec.ofInt (IntKind.bits .u64) 6148914691236517205).toNat) + (wr .u64 (BitVec.ofInt (IntKind.bits .u64) x0 &&& BitVec.ofInt (IntKind.bits .u64) 6148914691236517205).toNat))) (2 ^ (min (Int.toNat 2) (IntKind.bits .u64)))) &&& BitVec.ofInt (IntKind.bits .u64) 3689348814741910323).toNat) + (wr .u64 (BitVec.ofInt (IntKind.bits .u64) (wr .u64 ((wr .u64 (BitVec.ofInt (IntKind.bits .u64) (Int.fdiv x0 (2 ^ (min (Int.toNat 1) (IntKind.bits .u64)))) &&& BitVec.ofInt (IntKind.bits .u64) 6148914691236517205).toNat) + (wr .u64 (BitVec.ofInt (IntKind.bits .u64) x0 &&& BitVec.ofInt (IntKind.bits .u64) 6148914691236517205).toNat))) &&& BitVec.ofInt (IntKind.bits .u64) 3689348814741910323).toNat))))) &&& BitVec.ofInt (IntKind.bits .u64) 1085102592571150095).toNat) (2 ^ (min (Int.toNat 8) (IntKind.bits .u64)))))) + (Int.fdiv (wr .u64 ((wr .u64 (BitVec.ofInt (IntKind.bits .u64) (wr .u64 ((Int.fdiv (wr .u64 ((wr .u64 (BitVec.ofInt (IntKind.bits .u64) (Int.fdiv (wr .u64 ((wr .u64 (BitVec.ofInt (IntKind.bits .u64) (Int.fdiv x0 (2 ^ (min (Int.toNat 1) (IntKind.bits .u64)))) &&& BitVec.ofInt (IntKind.bits .u64) 6148914691236517205).toNat) + (wr .u64 (BitVec.ofInt (IntKind.bits .u64) x0 &&& BitVec.ofInt (IntKind.bits .u64) 6148914691236517205).toNat))) (2 ^ (min (Int.toNat 2) (IntKind.bits .u64)))) &&& BitVec.ofInt (IntKind.bits .u64) 3689348814741910323).toNat) + (wr .u64 (BitVec.ofInt (IntKind.bits .u64) (wr .u64 ((wr .u64 (BitVec.ofInt (IntKind.bits .u64) (Int.fdiv x0 (2 ^ (min (Int.toNat 1) (IntKind.bits .u64)))) &&& BitVec.ofInt (IntKind.bits .u64) 6148914691236517205).toNat) + (wr .u64 (BitVec.ofInt (IntKind.bits .u64) x0 &&& BitVec.ofInt (IntKind.bits .u64) 6148914691236517205).toNat))) &&& BitVec.ofInt (IntKind.bits .u64) 3689348814741910323).toNat))) (2 ^ (min (Int.toNat 4) (IntKind.bits .u64)))) + (wr .u64 ((wr .u64 (BitVec.ofInt (IntKind.bits .u64) (Int.fdiv (wr .u64 ((wr .u64 (BitVec.ofInt (IntKind.bits .u64) (Int.fdiv x0 (2 ^ (min (Int.toNat 1) (IntKind.bits .u64)))) &&& BitVec.ofInt (IntKind.bits .u64) 6148914691236517205).toNat) + (wr .u64 (BitVec.ofInt (IntKind.bits .u64) x0 &&& BitVec.ofInt (IntKind.bits .u64) 6148914691236517205).toNat))) (2 ^ (min (Int.toNat 2) (IntKind.bits .u64)))) &&& BitVec.ofInt (IntKind.bits .u64) 3689348814741910323).toNat) + (wr .u64 (BitVec.ofInt (IntKind.bits .u64) (wr .u64 ((wr .u64 (BitVec.ofInt (IntKind.bits .u64) (Int.fdiv x0 (2 ^ (min (Int.toNat 1) (IntKind.bits .u64)))) &&& BitVec.ofInt (IntKind.bits .u64) 6148914691236517205).toNat) + (wr .u64 (BitVec.ofInt (IntKind.bits .u64) x0 &&& BitVec.ofInt (IntKind.bits .u64) 6148914691236517205).toNat))) &&& BitVec.ofInt (IntKind.bits .u64) 3689348814741910323).toNat))))) &&& BitVec.ofInt (IntKind.bits .u64) 1085102592571150095).toNat) + (Int.fdiv (wr .u64 (BitVec.ofInt (IntKind.bits .u64) (wr .u64 ((Int.fdiv (wr .u64 ((wr .u64 (BitVec.ofInt (IntKind.bits .u64) (Int.fdiv (wr .u64 ((wr .u64 (BitVec.ofInt (IntKind.bits .u64) (Int.fdiv x0 (2 ^ (min (Int.toNat 1) (IntKind.bits .u64)))) &&& BitVec.ofInt (IntKind.bits .u64) 6148914691236517205).toNat) + (wr .u64 (BitVec.ofInt (IntKind.bits .u64) x0 &&& BitVec.ofInt (IntKind.bits .u64) 6148914691236517205).toNat))) (2 ^ (min (Int.toNat 2) (IntKind.bits .u64)))) &&& BitVec.ofInt (IntKind.bits .u64) 3689348814741910323).toNat) + (wr .u64 (BitVec.ofInt (IntKind.bits .u64) (wr .u64 ((wr .u64 (BitVec.ofInt (IntKind.bits .u64) (Int.fdiv x0 (2 ^ (min (Int.toNat 1) (IntKind.bits .u64)))) &&& BitVec.ofInt (IntKind.bits .u64) 6148914691236517205).toNat) + (wr .u64 (BitVec.ofInt (IntKind.bits .u64) x0 &&& BitVec.ofInt (IntKind.bits .u64) 6148914691236517205).toNat))) &&& BitVec.ofInt (IntKind.bits .u64) 3689348814741910323).toNat))) (2 ^ (min (Int.toNat 4) (IntKind.bits .u64)))) + (wr .u64 ((wr .u64 (BitVec.ofInt (IntKind.bits .u64) (Int.fdiv (wr .u64 ((wr .u64 (BitVec.ofInt (IntKind.bits .u64) (Int.fdiv x0 (2 ^ (min (Int.toNat 1) (IntKind.bits .u64)))) &&& BitVec.ofInt (IntKind.bits .u64) 6148914691236517205).toNat) + (wr .u64 (BitVec.ofInt (IntKind.bits .u64) x0 &&& BitVec.ofInt (IntKind.bits .u64) 6148914691236517205).toNat))) (2 ^ (min (Int.toNat 2) (IntKind.bits .u64)))) &&& BitVec.ofInt (IntKind.bits .u64) 3689348814741910323).toNat) + (wr .u64 (BitVec.ofInt (IntKind.bits .u64) (wr .u64 ((wr .u64 (BitVec.ofInt (IntKind.bits .u64) (Int.fdiv x0 (2 ^ (min (Int.toNat 1) (IntKind.bits .u64)))) &&& BitVec.ofInt (IntKind.bits .u64) 6148914691236517205).toNat) + (wr .u64 (BitVec.ofInt (IntKind.bits .u64) x0 &&& BitVec.ofInt (IntKind.bits .u64) 6148914691236517205).toNat))) &&& BitVec.ofInt (IntKind.bits .u64) 3689348814741910323).toNat))))) &&& BitVec.ofInt (IntKind.bits .u64) 1085102592571150095).toNat) (2 ^ (min (Int.toNat 8) (IntKind.bits .u64)))))) (2 ^ (min (Int.toNat 16) (IntKind.bits .u64)))))) + (Int.fdiv (wr .u64 ((wr .u64 ((wr .u64 (BitVec.ofInt (IntKind.bits .u64) (wr .u64 ((Int.fdiv (wr .u64 ((wr .u64 (BitVec.ofInt (IntKind.bits .u64) (Int.fdiv (wr .u64 ((wr .u64 (BitVec.ofInt (IntKind.bits .u64) (Int.fdiv x0 (2 ^ (min (Int.toNat 1) (IntKind.bits .u64)))) &&& BitVec.ofInt (IntKind.bits .u64) 6148914691236517205).toNat) + (wr .u64 (BitVec.ofInt (IntKind.bits .u64) x0 &&& BitVec.ofInt (IntKind.bits .u64) 6148914691236517205).toNat))) (2 ^ (min (Int.toNat 2) (IntKind.bits .u64)))) &&& BitVec.ofInt (IntKind.bits .u64) 3689348814741910323).toNat) + (wr .u64 (BitVec.ofInt (IntKind.bits .u64) (wr .u64 ((wr .u64 (BitVec.ofInt (IntKind.bits .u64) (Int.fdiv x0 (2 ^ (min (Int.toNat 1) (IntKind.bits .u64)))) &&& BitVec.ofInt (IntKind.bits .u64) 6148914691236517205).toNat) + (wr .u64 (BitVec.ofInt (IntKind.bits .u64) x0 &&& BitVec.ofInt (IntKind.bits .u64) 6148914691236517205).toNat))) &&& BitVec.ofInt (IntKind.bits .u64) 3689348814741910323).toNat))) (2 ^ (min (Int.toNat 4) (IntKind.bits .u64)))) + (wr .u64 ((wr .u64 (BitVec.ofInt (IntKind.bits .u64) (Int.fdiv (wr .u64 ((wr .u64 (BitVec.ofInt (IntKind.bits .u64) (Int.fdiv x0 (2 ^ (min (Int.toNat 1) (IntKind.bits .u64)))) &&& BitVec.ofInt (IntKind.bits .u64) 6148914691236517205).toNat) + (wr .u64 (BitVec.ofInt (IntKind.bits .u64) x0 &&& BitVec.ofInt (IntKind.bits .u64) 6148914691236517205).toNat))) (2 ^ (min (Int.toNat 2) (IntKind.bits .u64)))) &&& BitVec.ofInt (IntKind.bits .u64) 3689348814741910323).toNat) + (wr .u64 (BitVec.ofInt (IntKind.bits .u64) (wr .u64 ((wr .u64 (BitVec.ofInt (IntKind.bits .u64) (Int.fdiv x0 (2 ^ (min (Int.toNat 1) (IntKind.bits .u64)))) &&& BitVec.ofInt (IntKind.bits .u64) 6148914691236517205).toNat) + (wr .u64 (BitVec.ofInt (IntKind.bits .u64) x0 &&& BitVec.ofInt (IntKind.bits .u64) 6148914691236517205).toNat))) &&& BitVec.ofInt (IntKind.bits .u64) 3689348814741910323).toNat))))) &&& BitVec.ofInt (IntKind.bits .u64) 1085102592571150095).toNat) + (Int.fdiv (wr .u64 (BitVec.ofInt (IntKind.bits .u64) (wr .u64 ((Int.fdiv (wr .u64 ((wr .u64 (BitVec.ofInt (IntKind.bits .u64) (Int.fdiv (wr .u64 ((wr .u64 (BitVec.ofInt (IntKind.bits .u64) (Int.fdiv x0 (2 ^ (min (Int.toNat 1) (IntKind.bits .u64)))) &&& BitVec.ofInt (IntKind.bits .u64) 6148914691236517205).toNat) + (wr .u64 (BitVec.ofInt (IntKind.bits .u64) x0 &&& BitVec.ofInt (IntKind.bits .u64) 6148914691236517205).toNat))) (2 ^ (min (Int.toNat 2) (IntKind.bits .u64)))) &&& BitVec.ofInt (IntKind.bits .u64) 3689348814741910323).toNat) + (wr .u64 (BitVec.ofInt (IntKind.bits .u64) (wr .u64 ((wr .u64 (BitVec.ofInt (IntKind.bits .u64) (Int.fdiv x0 (2 ^ (min (Int.toNat 1) (IntKind.bits .u64)))) &&& BitVec.ofInt (IntKind.bits .u64) 6148914691236517205).toNat) + (wr .u64 (BitVec.ofInt (IntKind.bits .u64) x0 &&& BitVec.ofInt (IntKind.bits .u64) 6148914691236517205).toNat))) &&& BitVec.ofInt (IntKind.bits .u64) 3689348814741910323).toNat))) (2 ^ (min (Int.toNat 4) (IntKind.bits .u64)))) + (wr .u64 ((wr .u64 (BitVec.ofInt (IntKind.bits .u64) (Int.fdiv (wr .u64 ((wr .u64 (BitVec.ofInt (IntKind.bits .u64) (Int.fdiv x0 (2 ^ (min (Int.toNat 1) (IntKind.bits .u64)))) &&& BitVec.ofInt (IntKind.bits .u64) 6148914691236517205).toNat) + (wr .u64 (BitVec.ofInt (IntKind.bits .u64) x0 &&& BitVec.ofInt (IntKind.bits .u64) 6148914691236517205).toNat))) (2 ^ (min (Int.toNat 2) (IntKind.bits .u64)))) &&& BitVec.ofInt (IntKind.bits .u64) 3689348814741910323).toNat) + (wr .u64 (BitVec.ofInt (IntKind.bits .u64) (wr .u64 ((wr .u64 (BitVec.ofInt (IntKind.bits .u64) (Int.fdiv x0 (2 ^ (min (Int.toNat 1) (IntKind.bits .u64)))) &&& BitVec.ofInt (IntKind.bits .u64) 6148914691236517205).toNat) + (wr .u64 (BitVec.ofInt (IntKind.bits .u64) x0 &&& BitVec.ofInt (IntKind.bits .u64) 6148914691236517205).toNat))) &&& BitVec.ofInt (IntKind.bits .u64) 3689348814741910323).toNat))))) &&& BitVec.ofInt (IntKind.bits .u64) 1085102592571150095).toNat) (2 ^ (min (Int.toNat 8) (IntKind.bits .u64)))))) + (Int.fdiv (wr .u64 ((wr .u64 (BitVec.ofInt (IntKind.bits .u64) (wr .u64 ((Int.fdiv (wr .u64 ((wr .u64 (BitVec.ofInt (IntKind.bits .u64) (Int.fdiv (wr .u64 ((wr .u64 (BitVec.ofInt (IntKind.bits .u64) (Int.fdiv x0 (2 ^ (min (Int.toNat 1) (IntKind.bits .u64)))) &&& BitVec.ofInt (IntKind.bits .u64) 6148914691236517205).toNat) + (wr .u64 (BitVec.ofInt (IntKind.bits .u64) x0 &&& BitVec.ofInt (IntKind.bits .u64) 6148914691236517205).toNat))) (2 ^ (min (Int.toNat 2) (IntKind.bits .u64)))) &&& BitVec.ofInt (IntKind.bits .u64) 3689348814741910323).toNat) + (wr .u64 (BitVec.ofInt (IntKind.bits .u64) (wr .u64 ((wr .u64 (BitVec.ofInt (IntKind.bits .u64) (Int.fdiv x0 (2 ^ (min (Int.toNat 1) (IntKind.bits .u64)))) &&& BitVec.ofInt (IntKind.bits .u64) 6148914691236517205).toNat) + (wr .u64 (BitVec.ofInt (IntKind.bits .u64) x0 &&& BitVec.ofInt (IntKind.bits .u64) 6148914691236517205).toNat))) &&& BitVec.ofInt (IntKind.bits .u64) 3689348814741910323).toNat))) (2 ^ (min (Int.toNat 4) (IntKind.bits .u64)))) + (wr .u64 ((wr .u64 (BitVec.ofInt (IntKind.bits .u64) (Int.fdiv (wr .u64 ((wr .u64 (BitVec.ofInt (IntKind.bits .u64) (Int.fdiv x0 (2 ^ (min (Int.toNat 1) (IntKind.bits .u64)))) &&& BitVec.ofInt (IntKind.bits .u64) 6148914691236517205).toNat) + (wr .u64 (BitVec.ofInt (IntKind.bits .u64) x0 &&& BitVec.ofInt (IntKind.bits .u64) 6148914691236517205).toNat))) (2 ^ (min (Int.toNat 2) (IntKind.bits .u64)))) &&& BitVec.ofInt (IntKind.bits .u64) 3689348814741910323).toNat) + (wr .u64 (BitVec.ofInt (IntKind.bits .u64) (wr .u64 ((wr .u64 (BitVec.ofInt (IntKind.bits .u64) (Int.fdiv x0 (2 ^ (min (Int.toNat 1) (IntKind.bits .u64)))) &&& BitVec.ofInt (IntKind.bits .u64) 6148914691236517205).toNat) + (wr .u64 (BitVec.ofInt (IntKind.bits .u64) x0 &&& BitVec.ofInt (IntKind.bits .u64) 6148914691236517205).toNat))) &&& BitVec.ofInt (IntKind.bits .u64) 3689348814741910323).toNat))))) &&& BitVec.ofInt (IntKind.bits .u64) 1085102592571150095).toNat) + (Int.fdiv (wr .u64 (BitVec.ofInt (IntKind.bits .u64) (wr .u64 ((Int.fdiv (wr .u64 ((wr .u64 (BitVec.ofInt (IntKind.bits .u64) (Int.fdiv (wr .u64 ((wr .u64 (BitVec.ofInt (IntKind.bits .u64) (Int.fdiv x0 (2 ^ (min (Int.toNat 1) (IntKind.bits .u64)))) &&& BitVec.ofInt (IntKind.bits .u64) 6148914691236517205).toNat) + (wr .u64 (BitVec.ofInt (IntKind.bits .u64) x0 &&& BitVec.ofInt (IntKind.bits .u64) 6148914691236517205).toNat))) (2 ^ (min (Int.toNat 2) (IntKind.bits .u64)))) &&& BitVec.ofInt (IntKind.bits .u64) 3689348814741910323).toNat) + (wr .u64 (BitVec.ofInt (IntKind.bits .u64) (wr .u64 ((wr .u64 (BitVec.ofInt (IntKind.bits .u64) (Int.fdiv x0 (2 ^ (min (Int.toNat 1) (IntKind.bits .u64)))) &&& BitVec.ofInt (IntKind.bits .u64) 6148914691236517205).toNat) + (wr .u64 (BitVec.ofInt (IntKind.bits .u64) x0 &&& BitVec.ofInt (IntKind.bits .u64) 6148914691236517205).toNat))) &&& BitVec.ofInt (IntKind.bits .u64) 3689348814741910323).toNat))) (2 ^ (min (Int.toNat 4) (IntKind.bits .u64)))) + (wr .u64 ((wr .u64 (BitVec.ofInt (IntKind.bits .u64) (Int.fdiv (wr .u64 ((wr .u64 (BitVec.ofInt (IntKind.bits .u64) (Int.fdiv x0 (2 ^ (min (Int.toNat 1) (IntKind.bits .u64)))) &&& BitVec.ofInt (IntKind.bits .u64) 6148914691236517205).toNat) + (wr .u64 (BitVec.ofInt (IntKind.bits .u64) x0 &&& BitVec.ofInt (IntKind.bits .u64) 6148914691236517205).toNat))) (2 ^ (min (Int.toNat 2) (IntKind.bits .u64)))) &&& BitVec.ofInt (IntKind.bits .u64) 3689348814741910323).toNat) + (wr .u64 (BitVec.ofInt (IntKind.bits .u64) (wr .u64 ((wr .u64 (BitVec.ofInt (IntKind.bits .u64) (Int.fdiv x0 (2 ^ (min (Int.toNat 1) (IntKind.bits .u64)))) &&& BitVec.ofInt (IntKind.bits .u64) 6148914691236517205).toNat) + (wr .u64 (BitVec.ofInt (IntKind.bits .u64) x0 &&& BitVec.ofInt (IntKind.bits .u64) 6148914691236517205).toNat))) &&& BitVec.ofInt (IntKind.bits .u64) 3689348814741910323).toNat))))) &&& BitVec.ofInt (IntKind.bits .u64) 1085102592571150095).toNat) (2 ^ (min (Int.toNat 8) (IntKind.bits .u64)))))) (2 ^ (min (Int.toNat 16) (IntKind.bits .u64)))))) (2 ^ (min (Int.toNat 32) (IntKind.bits .u64))))))) &&& BitVec.ofInt (IntKind.bits .i64) 127).toNat)))))))
theorem S82_D (n : Nat × Nat) (hn : n.2 = 1) : S82 n = D82 n := by
  funext x0; refine (S82_eq n x0).trans ?_
  unfold D82
  first | with_reducible rfl | rfl
/-D 72 -/
noncomputable def D72 (n : Nat × Nat) (x0 : Int) : Option R72 :=
 (D82 n x0).bind fun r1' =>
 some r1'
theorem S72_D (n : Nat × Nat) (hn : n.2 = 1) : S72 n = D72 n := by
  funext x0; refine (S72_eq n x0).trans ?_
  unfold D72
  (try simp only [S82_D n hn]) <;> first | with_reducible rfl | rfl
/-D 64 -/
noncomputable def D64 (n : Nat × Nat) (f0 : Int × Unit) (page1 : Int) (room2 : Int) : Option R64 :=
 (bif decide (page1 < 0) then none
 else ((bif (((wr .u64 (BitVec.ofInt (IntKind.bits .u64) (Int.fdiv f0.1 (2 ^ (min (Int.toNat page1) (IntKind.bits .u64)))) &&& BitVec.ofInt (IntKind.bits .u64) 1).toNat) == 0) == true) then (D72 n f0.1).bind fun r1' =>
 some (decide (r1' ≥ room2))
 else some false)).bind fun b2' =>
 some b2')
theorem S64_D (n : Nat × Nat) (hn : n.2 = 1) : S64 n = D64 n := by
  funext f0 page1 room2; refine (S64_eq n f0 page1 room2).trans ?_
  unfold D64
  (try simp only [S72_D n hn]) <;> first | with_reducible rfl | rfl
/- (headword/stand.floor).with -/
abbrev R65 := Int × Unit
noncomputable def c65 : Code := bodyOf Tryz.f65
noncomputable def an65 : Ann := (.s .l (.s (.s .l (.j [1, 3, 6] .l .l)) .l))
def pk65 : List PK := [.c (.pair (.int .u64) .unit), .c (.int .i64), .c (.int .i64)]
def rk65 : List RK := [.box (.pair (.int .u64) .unit) 6]
noncomputable def rt65 (st : St) : Option R65 := rtG rk65 st
noncomputable def E65 (n : Nat × Nat) : Env := { T := tab, phi := noPhi, eff := fun _ => false, fuel := n.1, hold := n.2 }
noncomputable def S65 (n : Nat × Nat) (f0 : Int × Unit) (page1 : Int) (gone2 : Int) : Option R65 := run (E65 n) c65 an65 rt65 (fun _ _ => none) rt65 { tm := [.agg [.int .u64 f0.1], .c (.int .i64 page1), .c (.int .i64 gone2), uu, uu, uu, uu, uu, uu, uu, uu, uu, uu, uu, uu, uu, uu, uu, uu, uu, uu, uu], hp := emp }
theorem S65_eq (n : Nat × Nat) (f0 : Int × Unit) (page1 : Int) (gone2 : Int) : S65 n f0 page1 gone2 =
 (bif decide (gone2 ≥ 0) then (bif decide (gone2 < 0) then none
 else (bif decide (page1 < 0) then none
 else some (wr .u64 (BitVec.ofInt (IntKind.bits .u64) (wr .u64 (BitVec.ofInt (IntKind.bits .u64) f0.1 &&& ~~~BitVec.ofInt (IntKind.bits .u64) (wr .u64 (1 * 2 ^ (min (Int.toNat gone2) (IntKind.bits .u64))))).toNat) ||| BitVec.ofInt (IntKind.bits .u64) (wr .u64 (1 * 2 ^ (min (Int.toNat page1) (IntKind.bits .u64))))).toNat, ())))
 else (bif decide (page1 < 0) then none
 else some (wr .u64 (BitVec.ofInt (IntKind.bits .u64) f0.1 ||| BitVec.ofInt (IntKind.bits .u64) (wr .u64 (1 * 2 ^ (min (Int.toNat page1) (IntKind.bits .u64))))).toNat, ()))) := by kernel_rfl
theorem S65_run (n : Nat × Nat) (xs : pksDen pk65) : S65 n xs.1 xs.2.1 xs.2.2.1 = runG (E65 n) noScope c65 an65 (rtG rk65) (fun _ _ => none) (rtG rk65) (st0 pk65 xs Tryz.f65.ntmps) := by kernel_rfl
noncomputable def P65 (n : Nat × Nat) := phiOf pk65 rk65 (fun xs => S65 n xs.1 xs.2.1 xs.2.2.1)
theorem env65 (n : Nat × Nat) : EnvOK Tryz.prog (E65 n) := envOK0 noPhi_ok rfl rfl
theorem par65 (n : Nat × Nat) : EnvPar (E65 n) := envPar0 noPhi_par rfl
theorem FC65 (n : Nat × Nat) : FCs Tryz.prog 65 (P65 n) := phiOf_FCs fun xs r h vs hv => FC.of_runG tabOK eqsOK (env65 n) (par65 n) mixed (fun _ p _ => noScope_ok p.1 p.2) Tryz.func65 (c := c65) (an := an65) (pks := pk65) (rks := rk65) (by kernel_rfl) (by kernel_rfl) hv ((S65_run n xs).symm.trans h)
/-D 65 -/
noncomputable def D65 (n : Nat × Nat) (f0 : Int × Unit) (page1 : Int) (gone2 : Int) : Option R65 :=
 (bif decide (gone2 ≥ 0) then (bif decide (gone2 < 0) then none
 else (bif decide (page1 < 0) then none
 else some (wr .u64 (BitVec.ofInt (IntKind.bits .u64) (wr .u64 (BitVec.ofInt (IntKind.bits .u64) f0.1 &&& ~~~BitVec.ofInt (IntKind.bits .u64) (wr .u64 (1 * 2 ^ (min (Int.toNat gone2) (IntKind.bits .u64))))).toNat) ||| BitVec.ofInt (IntKind.bits .u64) (wr .u64 (1 * 2 ^ (min (Int.toNat page1) (IntKind.bits .u64))))).toNat, ())))
 else (bif decide (page1 < 0) then none
 else some (wr .u64 (BitVec.ofInt (IntKind.bits .u64) f0.1 ||| BitVec.ofInt (IntKind.bits .u64) (wr .u64 (1 * 2 ^ (min (Int.toNat page1) (IntKind.bits .u64))))).toNat, ())))
theorem S65_D (n : Nat × Nat) (hn : n.2 = 1) : S65 n = D65 n := by
  funext f0 page1 gone2; refine (S65_eq n f0 page1 gone2).trans ?_
  unfold D65
  first | with_reducible rfl | rfl
end Go.Proofs.YtkfkbebinhkdlaaGreatDoor
set_option linter.unusedVariables false
set_option linter.unusedSimpArgs false
set_option maxRecDepth 100000
namespace Go.Proofs.YtkfkbebinhkdlaaGreatDoor
open Go.RowKit Go.Vi
def tzTab : List Int := [0, 1, 56, 2, 57, 49, 28, 3, 61, 58, 42, 50, 38, 29, 17, 4, 62, 47, 59, 36, 45, 43, 51, 22, 53, 39, 33, 30, 24, 18, 12, 5, 63, 55, 48, 27, 60, 41, 37, 16, 46, 35, 44, 21, 52, 32, 23, 11, 54, 26, 40, 15, 34, 20, 31, 10, 25, 14, 19, 9, 13, 8, 7, 6]
def tzIx (x : Int) : Int := IntKind.u64.wrap (bits BinOp.and IntKind.u64 x (IntKind.u64.wrap (-x)) * 285870213051353865) / 288230376151711744
def tzF (x q : Int) : Option Int := bif x == 0 then some 64 else bif decide (0 ≤ q) && decide (q < 64) then tzTab[q.toNat]? else none
def HF84 (x : Int) : Option Int := tzF x (tzIx x)
theorem tzF_zero {q r : Int} (h : tzF 0 q = some r) : r = 64 := by
  have : tzF 0 q = some 64 := rfl
  rw [this] at h
  exact (Option.some.inj h).symm
theorem tzF_pos {x q r : Int} (hx : (x == 0) = false) (h : tzF x q = some r) : 0 ≤ q ∧ q < 64 ∧ tzTab[q.toNat]? = some r := by
  unfold tzF at h
  rw [hx, cond_false] at h
  cases hd : decide (0 ≤ q) && decide (q < 64) with
  | true =>
    rw [hd, cond_true] at h
    simp only [Bool.and_eq_true, decide_eq_true_eq] at hd
    exact ⟨hd.1, hd.2, h⟩
  | false => rw [hd, cond_false] at h; cases h
theorem tz_zero (w : World) : Calls Tryz.prog 84 #[.int .u64 0] w fun e W' => e = .returned (.int .i64 64) ∧ w = W' := by
  go_enter Tryz.func84, Tryz.ntmps84
  go_wp2
  go_ret
  exact ⟨rfl, rfl⟩
theorem tz_in (x r : Int) (w : World) (hx : (x == 0) = false) (h0 : 0 ≤ tzIx x) (h1 : tzIx x < 64) (hr0 : 0 ≤ r) (hr1 : r ≤ 64) (hc : w.cell? ⟨2, (tzIx x).toNat, none⟩ = some (.int .u8 r)) :
    Calls Tryz.prog 84 #[.int .u64 x] w fun e W' => e = .returned (.int .i64 r) ∧ w = W' := by
  unfold tzIx at h0 h1 hc
  go_enter Tryz.func84, Tryz.ntmps84
  go_wp2
  go_ret
  exact ⟨rfl, rfl⟩
theorem tz_bd {q : Nat} {r : Int} (h : tzTab[q]? = some r) : 0 ≤ r ∧ r ≤ 64 := by
  have hb : ∀ z ∈ tzTab, 0 ≤ z ∧ z ≤ 64 := by decide +kernel
  exact hb r (List.mem_of_getElem? h)
theorem tz_cell {w : World} {cur : Array Value} {et : TypeId} {fz : Nat × Nat} {q : Nat} {r : Int} (h3 : w.heap[2]? = some (.cells cur et fz)) (h4 : cur.toList = (tzTab.map fun z => (IntKind.u8, z)).map fun p => .int p.1 p.2) (h : tzTab[q]? = some r) :
    w.cell? ⟨2, q, none⟩ = some (.int .u8 r) := by
  simp only [World.cell?, h3]
  rw [← Array.getElem?_toList, h4]
  simp [List.getElem?_map, h]
theorem HC84 (n : Nat × Nat) (xs : pksDen [.c (.int .u64)]) (r : rksDen [.c (.int .i64) 0]) (h : HF84 xs.1 = some r) (vs : List V) (hv : pksArg [.c (.int .u64)] vs = some xs) :
    FC Tryz.prog 84 vs (rets [.c (.int .i64) 0] r) := by
  obtain ⟨x, ⟨⟩⟩ := xs
  intro w A0 args hA hargs hgl
  have hv2 := pksArg_VR _ _ _ _ hv hargs
  match args, hv2 with
  | [u1], hv2 =>
    have e1 : u1 = .int .u64 x := hv2.1
    subst e1
    have key : Calls Tryz.prog 84 #[.int .u64 x] w fun e W' => e = .returned (.int .i64 (r : Int)) ∧ w = W' := by
      cases hz : x == 0 with
      | true =>
        obtain rfl : x = 0 := by simpa using hz
        obtain rfl : r = 64 := tzF_zero h
        exact tz_zero w
      | false =>
        obtain ⟨h5, h6, h7⟩ := tzF_pos hz h
        obtain ⟨h1, h2, cur, et, fz, h3, h4⟩ := hgl 2 (tzTab.map fun z => (IntKind.u8, z)) rfl
        have hr := tz_bd h7
        exact tz_in x r w hz h5 h6 hr.1 hr.2 (tz_cell h3 h4 h7)
    refine key.mono ?_
    rintro e W' ⟨rfl, rfl⟩
    exact ⟨⟨Nat.le_refl _, rfl, rfl, rfl, fun _ _ => rfl⟩, [.emp], [_], rfl, rfl, fun b c h => (by cases h), trivial⟩
end Go.Proofs.YtkfkbebinhkdlaaGreatDoor
set_option linter.unusedVariables false
set_option linter.unusedSimpArgs false
set_option maxRecDepth 100000
namespace Go.Proofs.YtkfkbebinhkdlaaGreatDoor
open Go.Vi
/- math/bits.TrailingZeros64 -/
abbrev R84 := Int
def pk84 : List PK := [.c (.int .u64)]
def rk84 : List RK := [.c (.int .i64) 0]
noncomputable def S84 (n : Nat × Nat) (x0 : Int) : Option R84 := HF84 x0
noncomputable def P84 (n : Nat × Nat) := phiOf pk84 rk84 (fun xs => S84 n xs.1)
theorem call84 : CallOK Tryz.prog 84 := callOK_of Tryz.func84 (by kernel_rfl) (by kernel_rfl)
theorem FC84 (n : Nat × Nat) : FCs Tryz.prog 84 (P84 n) := phiOf_FCs fun xs r h vs hv => HC84 n xs r h vs hv
/- math/bits.TrailingZeros -/
abbrev R73 := Int
noncomputable def c73 : Code := bodyOf Tryz.f73
noncomputable def an73 : Ann := (.s .l (.s (.j [0] .l .l) .l))
def pk73 : List PK := [.c (.int .u64)]
def rk73 : List RK := [.c (.int .i64) 2]
noncomputable def rt73 (st : St) : Option R73 := rtG rk73 st
noncomputable def E73 (n : Nat × Nat) : Env := { T := tab, phi := (consPhi 84 (fun _ => true) (P84 n) noPhi), eff := fun _ => false, fuel := n.1, hold := n.2 }
noncomputable def S73 (n : Nat × Nat) (x0 : Int) : Option R73 := run (E73 n) c73 an73 rt73 (fun _ _ => none) rt73 { tm := [.c (.int .u64 x0), uu, uu, uu, uu, uu, uu, uu], hp := emp }
theorem S73_eq (n : Nat × Nat) (x0 : Int) : S73 n x0 =
 (S84 n x0).bind fun r1' =>
 some r1' := by kernel_rfl
theorem S73_run (n : Nat × Nat) (xs : pksDen pk73) : S73 n xs.1 = runG (E73 n) noScope c73 an73 (rtG rk73) (fun _ _ => none) (rtG rk73) (st0 pk73 xs Tryz.f73.ntmps) := by kernel_rfl
noncomputable def P73 (n : Nat × Nat) := phiOf pk73 rk73 (fun xs => S73 n xs.1)
theorem call73 : CallOK Tryz.prog 73 := callOK_of Tryz.func73 (by kernel_rfl) (by kernel_rfl)
theorem env73 (n : Nat × Nat) : EnvOK Tryz.prog (E73 n) := envOK0 (consPhi_ok (FC84 n) call84 noPhi_ok) rfl rfl
theorem par73 (n : Nat × Nat) : EnvPar (E73 n) := envPar0 (consPhi_par phiOf_Par1 noPhi_par) rfl
theorem FC73 (n : Nat × Nat) : FCs Tryz.prog 73 (P73 n) := phiOf_FCs fun xs r h vs hv => FC.of_runG tabOK eqsOK (env73 n) (par73 n) mixed (fun _ p _ => noScope_ok p.1 p.2) Tryz.func73 (c := c73) (an := an73) (pks := pk73) (rks := rk73) (by kernel_rfl) (by kernel_rfl) hv ((S73_run n xs).symm.trans h)
abbrev R66 := List Int
noncomputable def c66 : Code := bodyOf Tryz.f66
noncomputable def an66 : Ann := (.s .l (.s .l (.s (.j [3] (.j [0, 3] (.s (.s .l (.j [0, 3] .l .l)) (.s (.j [0, 3] .l .l) .l)) .l) .l) .l)))
def pk66 : List PK := [.c (.int .u64)]
def rk66 : List RK := [.own (.int .i64) 2]
noncomputable def rt66 (st : St) : Option R66 := rtG rk66 st
noncomputable def E66 (n : Nat × Nat) : Env := { T := tab, phi := (consPhi 73 (fun _ => true) (P73 n) noPhi), eff := fun _ => false, fuel := n.1, hold := n.2 }
noncomputable def kq66_1 (n : Nat × Nat) : St → Option R66 := run (E66 n) (cB (cB (cB c66))) (Ann.snd (Ann.snd (Ann.snd an66))) rt66 (fun _ _ => none) rt66
noncomputable def xb66_3 (n : Nat × Nat) : Nat → St → Option R66 := fun j s => bif Nat.beq j 0 then normC [3] s (kq66_1 n) else (fun _ _ => none) j s
noncomputable def F66_4 (n : Nat × Nat) : (St → Option R66) → St → Option R66 := fun K s => run (E66 n) (cA (cA (cA (cB (cB c66))))) (Ann.fst (Ann.fst (Ann.fst (Ann.snd (Ann.snd an66))))) (fun s => normC [0, 3] s K) (xb66_3 n) rt66 s
noncomputable def L66_1 (n : Nat × Nat) (m : Nat) (v0 : Int) (out3 : List Int) : Option R66 := loopN (F66_4 n) m { tm := [.c (.int .u64 v0), uu, uu, .own 3 none false, uu, uu, uu, uu, uu, uu, uu, uu, uu, uu, uu, uu], hp := (upd emp 3 (.arr (.int .i64) out3 false)) }
theorem L66_1_eq (n : Nat × Nat) (m1 : Nat) (v0 : Int) (out3 : List Int) : L66_1 n (m1 + 1) v0 out3 =
 (bif (v0 != 0) then (S73 n v0).bind fun r1' =>
 (bif decide (out3.length + [r1'].length ≤ lim) then L66_1 n m1 (wr .u64 (BitVec.ofInt (IntKind.bits .u64) v0 &&& BitVec.ofInt (IntKind.bits .u64) (wr .u64 (v0 - 1))).toNat) (out3 ++ [r1'])
 else none)
 else some out3) := by kernel_rfl
noncomputable def S66 (n : Nat × Nat) (v0 : Int) : Option R66 := run (E66 n) c66 an66 rt66 (fun _ _ => none) rt66 { tm := [.c (.int .u64 v0), uu, uu, uu, uu, uu, uu, uu, uu, uu, uu, uu, uu, uu, uu, uu], hp := emp }
theorem S66_eq (n : Nat × Nat) (v0 : Int) : S66 n v0 =
    L66_1 n n.1 v0 [] := by kernel_rfl
theorem S66_run (n : Nat × Nat) (xs : pksDen pk66) : S66 n xs.1 = runG (E66 n) noScope c66 an66 (rtG rk66) (fun _ _ => none) (rtG rk66) (st0 pk66 xs Tryz.f66.ntmps) := by kernel_rfl
noncomputable def P66 (n : Nat × Nat) := phiOf pk66 rk66 (fun xs => S66 n xs.1)
theorem env66 (n : Nat × Nat) : EnvOK Tryz.prog (E66 n) := envOK0 (consPhi_ok (FC73 n) call73 noPhi_ok) rfl rfl
theorem par66 (n : Nat × Nat) : EnvPar (E66 n) := envPar0 (consPhi_par phiOf_Par1 noPhi_par) rfl
theorem FC66 (n : Nat × Nat) : FCs Tryz.prog 66 (P66 n) := phiOf_FCs fun xs r h vs hv => FC.of_runG tabOK eqsOK (env66 n) (par66 n) mixed (fun _ p _ => noScope_ok p.1 p.2) Tryz.func66 (c := c66) (an := an66) (pks := pk66) (rks := rk66) (by kernel_rfl) (by kernel_rfl) hv ((S66_run n xs).symm.trans h)
/-D 84 -/
noncomputable def D84 (n : Nat × Nat) (x0 : Int) : Option R84 := HF84 x0
theorem S84_D (n : Nat × Nat) (hn : n.2 = 1) : S84 n = D84 n := by unfold S84 D84; rfl
/-D 73 -/
noncomputable def D73 (n : Nat × Nat) (x0 : Int) : Option R73 :=
 (D84 n x0).bind fun r1' =>
 some r1'
theorem S73_D (n : Nat × Nat) (hn : n.2 = 1) : S73 n = D73 n := by
  funext x0; refine (S73_eq n x0).trans ?_
  unfold D73
  (try simp only [S84_D n hn]) <;> first | with_reducible rfl | rfl
/-D 66 -/
noncomputable def DF66_1 (n : Nat × Nat) (f1 : Int → List Int → Option R66) (v0 : Int) (out3 : List Int) : Option R66 :=
 (bif (v0 != 0) then (D73 n v0).bind fun r1' =>
 (bif decide (out3.length + [r1'].length ≤ lim) then f1 (wr .u64 (BitVec.ofInt (IntKind.bits .u64) v0 &&& BitVec.ofInt (IntKind.bits .u64) (wr .u64 (v0 - 1))).toNat) (out3 ++ [r1'])
 else none)
 else some out3)
noncomputable def DL66_1 (n : Nat × Nat) (m : Nat) : Int → List Int → Option R66 := Nat.rec (motive := fun _ => Int → List Int → Option R66) (fun _ _ => none) (fun _ ih => DF66_1 n ih) m
theorem DL66_1_succ (n : Nat × Nat) (m : Nat) : DL66_1 n (m + 1) = DF66_1 n (DL66_1 n m) := rfl
theorem DL66_1_eq (n : Nat × Nat) (hn : n.2 = 1) : ∀ m, L66_1 n m = DL66_1 n m
  | 0 => by funext v0 out3; kernel_rfl
  | m + 1 => by
    have ih := DL66_1_eq n hn m
    funext v0 out3; refine (L66_1_eq n m v0 out3).trans ?_
    rw [DL66_1_succ]
    unfold DF66_1
    (try simp only [ih, S73_D n hn]) <;> first | with_reducible rfl | rfl
noncomputable def D66 (n : Nat × Nat) (v0 : Int) : Option R66 :=
    DL66_1 n n.1 v0 []
theorem S66_D (n : Nat × Nat) (hn : n.2 = 1) : S66 n = D66 n := by
  funext v0; refine (S66_eq n v0).trans ?_
  unfold D66
  (try simp only [DL66_1_eq n hn, S73_D n hn]) <;> first | with_reducible rfl | rfl
def n0 : Nat × Nat := (100, 1)
noncomputable def chkFull (f p r : Nat) : Bool := match D64 n0 ((f : Int), ()) p r with | some b => b == (!f.testBit p && Nat.ble r (cntF f)) | none => false
noncomputable def chkSw (f p g : Nat) : Bool := match D65 n0 ((f : Int), ()) p g with | some b => b.1 == (swF f p g : Int) | none => false
noncomputable def chkAdd (f p : Nat) : Bool := match D65 n0 ((f : Int), ()) p (-1) with | some b => b.1 == (addF f p : Int) | none => false
def eqL : List Int → List Nat → Bool
  | [], [] => true
  | x :: l, y :: m => x == (y : Int) && eqL l m
  | _, _ => false
theorem eqL_eq : ∀ {l : List Int} {m : List Nat}, eqL l m = true → l = m.map fun (y : Nat) => (y : Int)
  | [], [], _ => rfl
  | x :: l, y :: m, h => by
    simp only [eqL, Bool.and_eq_true, beq_iff_eq] at h
    rw [List.map_cons, ← eqL_eq h.2, h.1]
  | [], _ :: _, h => by cases h
  | _ :: _, [], h => by cases h
noncomputable def chkList (f : Nat) : Bool := match D66 n0 (f : Int) with | some l => eqL l (bitsF f) | none => false
def chkBit (f p : Nat) : Bool := (bits BinOp.and IntKind.u64 ((f : Int) / 2 ^ p) 1 == 1) == f.testBit p
theorem full_tab : (all64 fun f => all6 fun p => all6 fun r => chkFull f p r) = true := by kernel_rfl
theorem sw_tab : (all64 fun f => all6 fun p => all6 fun g => chkSw f p g) = true := by kernel_rfl
theorem add_tab : (all64 fun f => all6 fun p => chkAdd f p) = true := by kernel_rfl
theorem list_tab : (all64 fun f => chkList f) = true := by kernel_rfl
theorem bit_tab : (all64 fun f => all6 fun p => chkBit f p) = true := by kernel_rfl
end Go.Proofs.YtkfkbebinhkdlaaGreatDoor
set_option linter.unusedVariables false
set_option linter.unusedSimpArgs false
set_option maxRecDepth 100000
namespace Go.Proofs.YtkfkbebinhkdlaaGreatDoor
open Go.RowKit Go.Shelf
theorem Vs_end (room : Nat) (zs : List Int) (f : Nat) : Vs room zs zs.length f = 0 := by
  unfold Vs
  rw [List.drop_length]
  rfl
theorem Vs_cons {room : Nat} {zs : List Int} {t : Nat} (h : t < zs.length) (f : Nat) : Vs room zs t f = lst room (zs[t].toNat :: (zs.drop (t + 1)).map Int.toNat) f := by
  unfold Vs
  rw [List.drop_eq_getElem_cons h]
  rfl
theorem Vs_bd {room : Nat} (hr : 0 < room) {zs : List Int} (hl : zs.length ≤ 12) (t f : Nat) : 0 ≤ Vs room zs t f ∧ Vs room zs t f ≤ 12 := by
  have := lst_bd room hr ((zs.drop t).map Int.toNat) f
  rw [List.length_map, List.length_drop] at this
  unfold Vs
  omega
theorem bit_eq {f p : Nat} (hf : f < 64) (hp : p < 6) : (bits BinOp.and IntKind.u64 ((f : Int) / 2 ^ p) 1 == 1) = f.testBit p := by
  have := all6_get (all64_get bit_tab hf) hp
  simpa [chkBit] using this
/-- What the search leans on, in each world. -/
structure Calls3 (G : World → Prop) (room : Nat) : Prop where
  full : ∀ (W : World), G W → ∀ f p : Nat, f < 64 → p < 6 → Calls Tryz.prog 64 #[.agg #[.int .u64 f], .int .i64 (p : Int), .int .i64 room] W fun e W' => e = .returned (.bool (!f.testBit p && Nat.ble room (cntF f))) ∧ Below W.heap.size W W'
  add : ∀ (W : World), G W → ∀ f p : Nat, f < 64 → p < 6 → Calls Tryz.prog 65 #[.agg #[.int .u64 f], .int .i64 (p : Int), .int .i64 (-1)] W fun e W' => e = .returned (.agg #[.int .u64 (addF f p)]) ∧ Below W.heap.size W W'
  sw : ∀ (W : World), G W → ∀ f p g : Nat, f < 64 → p < 6 → g < 6 → Calls Tryz.prog 65 #[.agg #[.int .u64 f], .int .i64 (p : Int), .int .i64 (g : Int)] W fun e W' => e = .returned (.agg #[.int .u64 (swF f p g)]) ∧ Below W.heap.size W W'
  list : ∀ (W : World), G W → ∀ f : Nat, f < 64 → 0 < (bitsF f).length → Calls Tryz.prog 66 #[.int .u64 f] W fun e W' => ∃ b2 cap2, e = .returned (.slice (some ⟨b2, 0, none⟩) (bitsF f).length cap2) ∧ W.heap.size ≤ b2 ∧ Lst (bitsF f) b2 W' ∧ Below W.heap.size W W'
theorem least_all {G : World → Prop} {room : Nat} (hC : Calls3 G room) (hr0 : 0 < room) (zs : List Int) (hzl : zs.length ≤ 12) (hz : ∀ z ∈ zs, 0 ≤ z ∧ z < 6) (a : Option Addr) (cap b : Nat) :
    ∀ (m t f : Nat) (cur : Array Value) (w : World), t + m = zs.length → f < 64 → (∀ W, w.grownBy W (some b) → G W) → Tbl (Vs room zs) room a zs.length cap b cur w → PgOK zs a b w →
      Calls Tryz.prog 56 #[.pointer (some ⟨b, 0, none⟩), .int .i64 t, .agg #[.int .u64 f]] w (LeastAt (Vs room zs) room a zs.length cap b t f w)
  | 0, t, f, cur, w, ht, hf, hG, hT, hP => by
    obtain rfl : t = zs.length := by omega
    refine (least_end (Vs room zs) room a zs.length cap b f cur w hzl hT).mono ?_
    rintro e W ⟨rfl, hB⟩
    exact ⟨1, cur, by rw [Vs_end], hT.other ((hB.block b hT.blk.lt).trans hT.blk), gb_below hB⟩
  | m + 1, t, f, cur, w, ht, hf, hG, hT, hP => by
    have htl : t < zs.length := by omega
    obtain ⟨s, p, k1, k2, h3⟩ := hT.known t f (by omega) hf
    by_cases hn : s = 0 ∧ p = 0
    · obtain ⟨rfl, rfl⟩ := hn
      have hJ : Job (Vs room zs) room zs a zs.length cap b t f cur w := ⟨rfl, hzl, htl, hf, hT, hP, k1, k2, hz⟩
      obtain ⟨z0, z1⟩ := hz zs[t] (List.getElem_mem _)
      obtain ⟨q, hq⟩ := Int.eq_ofNat_of_zero_le z0
      have hq6 : q < 6 := by omega
      have hVc := Vs_cons (room := room) htl f
      rw [hq, Int.toNat_natCast] at hVc
      have hbit : ∀ h : t < zs.length, (bits BinOp.and IntKind.u64 ((f : Int) / 2 ^ (zs[t]'h).toNat) 1 == 1) = f.testBit q := fun _ => by
        rw [hq, Int.toNat_natCast]; exact bit_eq hf hq6
      have hrec : ∀ f' : Nat, f' < 64 → ∀ (W : World) (cur : Array Value), (w.grownBy W (some b)) → Tbl (Vs room zs) room a zs.length cap b cur W → PgOK zs a b W → Calls Tryz.prog 56 #[.pointer (some ⟨b, 0, none⟩), .int .i64 ((t : Int) + 1), .agg #[.int .u64 f']] W (LeastAt (Vs room zs) room a zs.length cap b (t + 1) f' W) := fun f' hf' W cur' hW hT' hP' => by
        have := least_all hC hr0 zs hzl hz a cap b m (t + 1) f' cur' W (by omega) hf' (fun W' hW' => hG W' (gb_trans hW hW')) hT' hP'
        simpa using this
      let GW : World → Prop := fun W => w.grownBy W (some b)
      cases hb : f.testBit q with
      | true =>
        exact least_stand (Vs room zs) room a zs.length cap b t f zs cur w hJ (by rw [hVc, lst_step hb]; rfl) (fun h => (hbit h).trans hb) GW (fun W h => h) (fun W cur hW => hrec f hf W cur hW)
      | false =>
        by_cases hc : cntF f < room
        · refine least_add (Vs room zs) room a zs.length cap b t f (addF f q) zs cur w hJ (by rw [hVc, lst_add hb hc, Int.add_comm]; rfl) (Vs_bd hr0 hzl _ _) (fun h => (hbit h).trans hb) GW (fun W h => h) (fun W hW h => ?_) (fun W hW h => ?_)
            (fun W cur hW => hrec _ (addF_lt hf hq6) W cur hW)
          · rw [hq]
            refine (hC.full W (hG W hW) f q hf hq6).mono ?_
            rintro e W' ⟨rfl, hB⟩
            have : Nat.ble room (cntF f) = false := by
              cases h : Nat.ble room (cntF f) with
              | false => rfl
              | true => have := Nat.le_of_ble_eq_true h; omega
            exact ⟨by rw [hb, this]; rfl, hB⟩
          · rw [hq]
            exact hC.add W (hG W hW) f q hf hq6
        · have h6 : (bitsF f).length ≤ 6 := by
            unfold bitsF
            have := List.length_filter_le (fun p => f.testBit p) (List.range 6)
            rw [List.length_range] at this
            exact this
          have h0 : 0 < (bitsF f).length := by rw [← cntF_bits]; omega
          refine least_swap (Vs room zs) room a zs.length cap b t f (bitsF f) (swF f q) zs cur w hJ h0 h6 (fun g hg => bitsF_lt hg) ?_ (fun g hg => Vs_bd hr0 hzl _ _) (fun h => (hbit h).trans hb) GW (fun W h => h) (fun W hW h => ?_) (fun W hW => hC.list W (hG W hW) f hf h0) (fun W hW h g hg => ?_)
            (fun g hg W cur hW => hrec _ (swF_lt hf hq6 (bitsF_lt hg)) W cur hW)
          · rw [hVc, lst_sw hb hc]
            congr 1
            funext g
            rw [Int.add_comm]
            rfl
          · rw [hq]
            refine (hC.full W (hG W hW) f q hf hq6).mono ?_
            rintro e W' ⟨rfl, hB⟩
            have : Nat.ble room (cntF f) = true := by simp only [Nat.ble_eq]; omega
            exact ⟨by rw [hb, this]; rfl, hB⟩
          · rw [hq]
            exact hC.sw W (hG W hW) f q g hf hq6 (bitsF_lt hg)
    · have hs : s = Vs room zs t f := h3.resolve_left hn
      refine (least_known (Vs room zs) room a zs.length cap b t f s p cur w hzl htl hf hT k1 k2 hn).mono ?_
      rintro e W ⟨rfl, hB⟩
      exact ⟨p, cur, by rw [hs], hT.other ((hB.block b hT.blk.lt).trans hT.blk), gb_below hB⟩
/-- The table at the beginning. -/
noncomputable def tblI (room : Int) (a : Option Addr) (L cap : Nat) : Array Value := (Tryz.prog.built 99 [(0, .agg #[.int .i64 room, .slice a L cap])]).getD #[]
def isZ (v : Value) : Bool := match v with | .int .i64 0 => true | _ => false
theorem isZ_eq {v : Value} (h : isZ v = true) : v = .int .i64 0 := by
  unfold isZ at h
  split at h
  · rfl
  · cases h
theorem tblI_some (room : Int) (a : Option Addr) (L cap : Nat) : (Tryz.prog.built 99 [(0, .agg #[.int .i64 room, .slice a L cap])]).isSome = true := by kernel_rfl
theorem tblI_size (room : Int) (a : Option Addr) (L cap : Nat) : (tblI room a L cap).size = 1538 := by kernel_rfl
theorem tblI_0 (room : Int) (a : Option Addr) (L cap : Nat) : (tblI room a L cap)[0]? = some (.int .i64 room) := by kernel_rfl
theorem tblI_1 (room : Int) (a : Option Addr) (L cap : Nat) : (tblI room a L cap)[1]? = some (.slice a L cap) := by kernel_rfl
theorem tblI_zs (room : Int) (a : Option Addr) (L cap : Nat) : ((tblI room a L cap).toList.drop 2).all isZ = true := by kernel_rfl
theorem tblI_built (room : Int) (a : Option Addr) (L cap : Nat) : Tryz.prog.built 99 [(0, .agg #[.int .i64 room, .slice a L cap])] = some (tblI room a L cap) := by
  unfold tblI
  obtain ⟨c, hc⟩ := Option.isSome_iff_exists.1 (tblI_some room a L cap)
  rw [hc]
  rfl
theorem tblI_get (room : Int) (a : Option Addr) (L cap i : Nat) (h : i < 1536) : (tblI room a L cap)[2 + i]? = some (.int .i64 0) := by
  have hs := tblI_size room a L cap
  have hz := tblI_zs room a L cap
  generalize tblI room a L cap = T at hs hz ⊢
  have h1 : (T.toList.drop 2)[i]? = some (T[2 + i]'(by omega)) := by
    rw [List.getElem?_drop, Array.getElem?_toList, Array.getElem?_eq_getElem (by omega)]
  have := isZ_eq (List.all_eq_true.1 hz _ (List.mem_of_getElem? h1))
  rw [Array.getElem?_eq_getElem (by omega), this]
theorem tblI_known (V : Nat → Nat → Int) (room : Int) (a : Option Addr) (L cap : Nat) : Known V (tblI room a L cap) := fun t f ht hf => by
  refine ⟨0, 0, ?_, ?_, .inl ⟨rfl, rfl⟩⟩
  · rw [show 2 + t * 128 + f * 2 = 2 + (t * 128 + f * 2) by omega]
    exact tblI_get room a L cap _ (by omega)
  · rw [show 2 + t * 128 + f * 2 + 1 = 2 + (t * 128 + f * 2 + 1) by omega]
    exact tblI_get room a L cap _ (by omega)
theorem fld95 (x y : Int) (w : World) : (Instr.field 95 (.agg #[.int .i64 x, .int .i64 y]) 0).run Tryz.prog w = .ok (.int .i64 x) w := by kernel_rfl
set_option maxHeartbeats 4000000 in
theorem fewest_in {room : Nat} (a : Option Addr) (L cap : Nat) (v : Int) (Q : World → Prop) (w : World) (h0 : 0 ≤ v) (h1 : v ≤ 12)
    (hck : ∀ W, Below w.heap.size w W → Calls Tryz.prog 55 #[.agg #[.int .i64 room, .slice a L cap]] W fun e W' => e = .returned (.int .i64 0) ∧ Below W.heap.size W W')
    (hls : ∀ W, Below w.heap.size w W → Calls Tryz.prog 56 #[.pointer (some ⟨W.heap.size, 0, none⟩), .int .i64 0, .agg #[.int .u64 0]] (W.alloc (.cells (tblI room a L cap) 99)) fun e W' => ∃ pl : Int, e = .returned (.agg #[.int .i64 v, .int .i64 pl]) ∧ Q W') :
    Calls Tryz.prog 48 #[.agg #[.int .i64 room, .slice a L cap]] w fun e W' => e = .returned (.tuple #[.int .i64 v, .int .i64 0]) ∧ Q W' := by
  have hbd := fun w => run_build (P := Tryz.prog) w 99 #[(0, .agg #[.int .i64 room, .slice a L cap])] _ (tblI_built room a L cap)
  go_enter Tryz.func48, Tryz.ntmps48
  have hfd := fld95
  have hbj := Blk.new w #[.int .i64 room, .slice a L cap] 85
  go_wp2_with (first | (go_at_call 55; refine (hck _ ((Below.refl _ _).alloc (Nat.le_refl _) _)).mono ?_; rintro e W1 ⟨rfl, hB1⟩; have hw1 := ((Below.refl _ w).alloc (Nat.le_refl _) _).trans (hB1.mono (by simp)); have hbk : Blk W1 w.heap.size #[.int .i64 room, .slice a L cap] 85 := (hB1.block w.heap.size (by simp)).trans hbj; have e1 := hbk.cell 0 rfl; have e2 := hbk.cell 1 rfl) | (go_at_call 56; refine (hls _ hw1).mono ?_; rintro e W2 ⟨pl, rfl, hQ⟩))
  go_ret2
  exact ⟨rfl, hQ⟩
end Go.Proofs.YtkfkbebinhkdlaaGreatDoor
set_option linter.unusedVariables false
set_option linter.unusedSimpArgs false
set_option maxRecDepth 100000
namespace Go.Proofs.YtkfkbebinhkdlaaGreatDoor
open Go.RowKit Go.Shelf Go.Vi
theorem fcs_FC {pks : List PK} {rks : List RK} {S : pksDen pks → Option (rksDen rks)} {g : FuncId} (h : FCs Tryz.prog g (phiOf pks rks S)) {xs : pksDen pks} {r : rksDen rks} {vs : List V} (hv : pksArg pks vs = some xs) (hs : S xs = some r) :
    FC Tryz.prog g vs (rets rks r) := by
  obtain ⟨ret, h1, h2⟩ := h vs _ some (rets rks r) (by unfold phiOf; rw [hv]; simp only [Option.bind_some, hs])
  cases h1
  exact h2
/-- A call that gives one thing. -/
theorem fc_one {g : FuncId} {vs : List V} {r1 : Ret1} (h : FC Tryz.prog g vs [r1]) {w : World} {A : Nat → Prop} {args : List Value} (hA : ∀ b, A b → b < w.heap.size) (hv : All2 (VR noGam w A emp) vs args) (hgl : GlobOK w A) :
    Calls Tryz.prog g args.toArray w fun x w2 => ∃ i u A1, x = .returned u ∧ RetR1 w w2 A1 r1 i u ∧ Below w.heap.size w w2 := by
  refine (h w A args hA hv hgl).mono ?_
  intro x w2 hx
  cases x with
  | returned u =>
    obtain ⟨hG, is, us, rfl, hR⟩ := hx
    match is, us, hR with
    | [i], [u], ⟨hu, _, _⟩ => exact ⟨i, u, _, rfl, hu, ⟨hG.os, hG.tape, hG.output, hG.size, hG.blk⟩⟩
    | [], [], hR => exact hR.elim
    | [], _ :: _, hR => exact hR.elim
    | [_], [], hR => exact hR.elim
    | [_], _ :: _ :: _, hR => exact hR.2.2.elim
    | _ :: _ :: _, [], hR => exact hR.elim
    | _ :: _ :: _, [_], hR => exact hR.2.2.elim
    | _ :: _ :: _, _ :: _ :: _, hR => exact hR.2.2.elim
  | _ => exact hx.elim
theorem D64_eq {f p r : Nat} (hf : f < 64) (hp : p < 6) (hr : r < 6) : D64 n0 ((f : Int), ()) p r = some (!f.testBit p && Nat.ble r (cntF f)) := by
  have := all6_get (all6_get (all64_get full_tab hf) hp) hr
  unfold chkFull at this
  cases h : D64 n0 ((f : Int), ()) p r with
  | none => rw [h] at this; cases this
  | some b => rw [h] at this; simp only [beq_iff_eq] at this; rw [this]
theorem D65_sw {f p g : Nat} (hf : f < 64) (hp : p < 6) (hg : g < 6) : D65 n0 ((f : Int), ()) p g = some ((swF f p g : Int), ()) := by
  have := all6_get (all6_get (all64_get sw_tab hf) hp) hg
  unfold chkSw at this
  cases h : D65 n0 ((f : Int), ()) p g with
  | none => rw [h] at this; cases this
  | some b => obtain ⟨b, ⟨⟩⟩ := b; rw [h] at this; simp only [beq_iff_eq] at this; rw [this]
theorem D65_add {f p : Nat} (hf : f < 64) (hp : p < 6) : D65 n0 ((f : Int), ()) p (-1) = some ((addF f p : Int), ()) := by
  have := all6_get (all64_get add_tab hf) hp
  unfold chkAdd at this
  cases h : D65 n0 ((f : Int), ()) p (-1) with
  | none => rw [h] at this; cases this
  | some b => obtain ⟨b, ⟨⟩⟩ := b; rw [h] at this; simp only [beq_iff_eq] at this; rw [this]
theorem D66_eq {f : Nat} (hf : f < 64) : D66 n0 (f : Int) = some ((bitsF f).map fun (y : Nat) => (y : Int)) := by
  have := all64_get list_tab hf
  unfold chkList at this
  cases h : D66 n0 (f : Int) with
  | none => rw [h] at this; cases this
  | some l => rw [h] at this; rw [eqL_eq this]
/-- Pages that are all right. -/
theorem D43_ok (zs : List Int) (hl : zs.length ≤ 12) (hz : ∀ z ∈ zs, 0 ≤ z ∧ z < 6) : ∀ (m i : Nat), zs.length - i < m → i ≤ zs.length → DL43c63_1 n0 m zs (zs.length : Int) (i : Int) = some (-1)
  | 0, i, h, _ => by omega
  | m + 1, i, h, hi => by
    rw [DL43c63_1_succ]
    unfold DF43c63_1
    by_cases hlt : i < zs.length
    · obtain ⟨h1, h2⟩ := hz zs[i] (List.getElem_mem _)
      have e1 : idx zs (i : Int) = some zs[i] := by
        unfold idx
        rw [if_pos (by omega), Int.toNat_natCast, List.getElem?_eq_getElem hlt]
      have e2 : D63 n0 zs[i] = some false := by
        unfold D63
        rw [show decide (zs[i] < 0) = false by simp; omega, show decide (zs[i] ≥ 6) = false by simp; omega]
        rfl
      have e3 : wr .i64 ((i : Int) + 1) = ((i + 1 : Nat) : Int) := by
        show IntKind.i64.wrap _ = _
        rw [IntKind.wrap_i64]
        omega
      rw [show decide ((i : Int) < (zs.length : Int)) = true by simp; omega, cond_true, e1, Option.bind_some, e2, Option.bind_some, cond_false, e3]
      exact D43_ok zs hl hz m (i + 1) (by omega) (by omega)
    · rw [show decide ((i : Int) < (zs.length : Int)) = false by simp; omega]
      rfl
theorem D55_ok (room : Int) (zs : List Int) (h1 : 1 ≤ room) (h2 : room ≤ 5) (hl : zs.length ≤ 12) (hz : ∀ z ∈ zs, 0 ≤ z ∧ z < 6) : D55 n0 (room, zs) = some 0 := by
  have h := D43_ok zs hl hz 100 0 (by omega) (by omega)
  unfold D55 D34c63 D43c63
  rw [show DL43c63_1 n0 n0.1 zs (zs.length : Int) 0 = some (-1) from h, show decide ((room, zs).1 < 1) = false by simp; omega, show decide ((room, zs).1 > 5) = false by simp; omega, show decide (((room, zs).2.length : Int) > 12) = false by simp; omega]
  rfl
def HF48 (j : Int × List Int) : Option (Int × Int) :=
  bif decide (1 ≤ j.1) && decide (j.1 ≤ 5) && decide (j.2.length ≤ 12) && j.2.all (fun z => decide (0 ≤ z) && decide (z < 6)) then some (lst j.1.toNat (j.2.map Int.toNat) 0, 0) else none
theorem calls3 {room : Nat} (hr : room < 6) : Calls3 (fun W => GlobOK W (fun b => b < W.heap.size)) room where
  full W hW f p hf hp := by
    have h := fc_one (fcs_FC (rks := [.c .bool 6]) (FC64 n0) (vs := [.agg [.int .u64 (f : Int)], .c (.int .i64 (p : Int)), .c (.int .i64 (room : Int))]) (xs := (((f : Int), ()), (p : Int), (room : Int), ())) rfl ((congrFun (congrFun (congrFun (S64_D n0 rfl) _) _) _).trans (D64_eq hf hp hr)))
      (args := [.agg #[.int .u64 f], .int .i64 (p : Int), .int .i64 room]) (fun b hb => hb) ⟨⟨[_], rfl, rfl, trivial⟩, rfl, rfl, trivial⟩ hW
    refine h.mono ?_
    rintro e W' ⟨i, u, A1, rfl, hu, hB⟩
    have hu : u = .bool _ := hu
    exact ⟨by rw [hu], hB⟩
  add W hW f p hf hp := by
    have h := fc_one (fcs_FC (rks := [.box (.pair (.int .u64) .unit) 6]) (FC65 n0) (vs := [.agg [.int .u64 (f : Int)], .c (.int .i64 (p : Int)), .c (.int .i64 (-1))]) (xs := (((f : Int), ()), (p : Int), -1, ())) rfl ((congrFun (congrFun (congrFun (S65_D n0 rfl) _) _) _).trans (D65_add hf hp)))
      (args := [.agg #[.int .u64 f], .int .i64 (p : Int), .int .i64 (-1)]) (fun b hb => hb) ⟨⟨[_], rfl, rfl, trivial⟩, rfl, rfl, trivial⟩ hW
    refine h.mono ?_
    rintro e W' ⟨i, u, A1, rfl, ⟨vs, hu, hvs⟩, hB⟩
    match vs, hvs with
    | [u1], ⟨h1, _⟩ =>
      have h1 : u1 = .int .u64 _ := h1
      subst h1
      exact ⟨by rw [hu], hB⟩
  sw W hW f p g hf hp hg := by
    have h := fc_one (fcs_FC (rks := [.box (.pair (.int .u64) .unit) 6]) (FC65 n0) (vs := [.agg [.int .u64 (f : Int)], .c (.int .i64 (p : Int)), .c (.int .i64 (g : Int))]) (xs := (((f : Int), ()), (p : Int), (g : Int), ())) rfl ((congrFun (congrFun (congrFun (S65_D n0 rfl) _) _) _).trans (D65_sw hf hp hg)))
      (args := [.agg #[.int .u64 f], .int .i64 (p : Int), .int .i64 (g : Int)]) (fun b hb => hb) ⟨⟨[_], rfl, rfl, trivial⟩, rfl, rfl, trivial⟩ hW
    refine h.mono ?_
    rintro e W' ⟨i, u, A1, rfl, ⟨vs, hu, hvs⟩, hB⟩
    match vs, hvs with
    | [u1], ⟨h1, _⟩ =>
      have h1 : u1 = .int .u64 _ := h1
      subst h1
      exact ⟨by rw [hu], hB⟩
  list W hW f hf h0 := by
    have h := fc_one (fcs_FC (rks := [.own (.int .i64) 2]) (FC66 n0) (vs := [.c (.int .u64 (f : Int))]) (xs := ((f : Int), ())) rfl ((congrFun (S66_D n0 rfl) _).trans (D66_eq hf)))
      (args := [.int .u64 f]) (fun b hb => hb) ⟨rfl, trivial⟩ hW
    refine h.mono ?_
    rintro e W' ⟨i, u, A1, rfl, ⟨ho, hs, hb⟩, hB⟩
    cases i with
    | emp =>
      have ho : (bitsF f).map (fun (y : Nat) => (y : Int)) = [] := ho
      have := congrArg List.length ho
      rw [List.length_map, List.length_nil] at this
      omega
    | «at» b c =>
      obtain ⟨_, ho1, cur, et, ho2, ho3, ho4⟩ := ho
      obtain ⟨rfl, _, _⟩ := hs
      have e1 : ((bitsF f).map (fun (y : Nat) => (y : Int))).length = (bitsF f).length := List.length_map _
      refine ⟨b, c, by rw [e1], (hb b c rfl).1, ⟨cur, et, ho2, fun i hi => ?_⟩, hB⟩
      have h4 := ho4 i ((bitsF f)[i] : Int) (by simp [List.getElem?_map, hi])
      have h5 : (cur.toList.drop (i * 1)).take 1 = [.int .i64 ((bitsF f)[i] : Int)] := h4
      rw [Nat.mul_one] at h5
      have h6 := congrArg (fun l => l[0]?) h5
      have h7 : cur.toList[i]? = some (.int .i64 ((bitsF f)[i] : Int)) := by simpa [List.getElem?_take, List.getElem?_drop] using h6
      rw [← Array.getElem?_toList, h7]
theorem HC48 (n : Nat × Nat) (xs : pksDen [.c (.pair (.int .i64) (.sl (.int .i64)))]) (r : rksDen [.c (.int .i64) 0, .c (.int .i64) 0]) (h : HF48 xs.1 = some r) (vs : List V) (hv : pksArg [.c (.pair (.int .i64) (.sl (.int .i64)))] vs = some xs) :
    FC Tryz.prog 48 vs (rets [.c (.int .i64) 0, .c (.int .i64) 0] r) := by
  obtain ⟨⟨room, zs⟩, ⟨⟩⟩ := xs
  unfold HF48 at h
  obtain ⟨hd, h⟩ := cond_some h rfl
  simp only [Bool.and_eq_true, decide_eq_true_eq, List.all_eq_true] at hd
  obtain ⟨⟨⟨hr1, hr5⟩, hl⟩, hz⟩ := hd
  have hr1 : 1 ≤ room := hr1
  have hr5 : room ≤ 5 := hr5
  have hl : zs.length ≤ 12 := hl
  have hz : ∀ z ∈ zs, 0 ≤ z ∧ z < 6 := hz
  cases h
  intro w A0 args hA hargs hgl
  have hv2 := pksArg_VR _ _ _ _ hv hargs
  match args, hv2 with
  | [v1], ⟨g0, _⟩ =>
    obtain ⟨us, rfl, hus⟩ := g0
    match us, hus with
    | [u1, u2], ⟨h1, h2, _⟩ =>
      have h1 : u1 = .int .i64 room := h1
      subst h1
      have h2 : CR w A0 (.sl (.int .i64) zs false) u2 := h2
      obtain ⟨a, cap, rfl, hcap, _, hr⟩ := id h2
      obtain ⟨k, rfl⟩ := Int.eq_ofNat_of_zero_le (Int.le_trans (show (0 : Int) ≤ 1 by decide) hr1)
      have hmon : ∀ {W : World}, Below w.heap.size w W → ∀ b, A0 b → A0 b ∧ W.heap[b]? = w.heap[b]? := fun hB b hb => ⟨hb, hB.block b (hA b hb)⟩
      have hk1 : (1 : Int) ≤ (k : Int) := hr1
      have hk5 : (k : Int) ≤ 5 := hr5
      have hk0 : 1 ≤ k ∧ k ≤ 5 := by omega
      have hbd := Vs_bd (room := k) (by omega) hl 0 0
      have key := fewest_in (room := k) a zs.length cap (Vs k zs 0 0) (fun W' => Below w.heap.size w W') w hbd.1 hbd.2
        (fun W hW => by
          have hc := fc_one (fcs_FC (rks := [.c (.int .i64) 2]) (FC55 n0) (vs := [.agg [.int .i64 (k : Int), .sl (.int .i64) zs false]]) (xs := (((k : Int), zs), ())) rfl ((congrFun (S55_D n0 rfl) _).trans (D55_ok k zs hr1 hr5 hl hz)))
            (w := W) (A := A0) (args := [.agg #[.int .i64 k, .slice a zs.length cap]]) (fun b hb => Nat.lt_of_lt_of_le (hA b hb) hW.size) ⟨⟨[_, _], rfl, rfl, CR.mono (hmon hW) _ _ h2, trivial⟩, trivial⟩ (hgl.mono hW.size (hmon hW))
          refine hc.mono ?_
          rintro e W' ⟨i, u, A1, rfl, hu, hB⟩
          have hu : u = .int .i64 0 := hu
          exact ⟨by rw [hu], hB⟩)
        (fun W hW => by
          have hb0 : ∀ b, A0 b → b < W.heap.size := fun b hb => Nat.lt_of_lt_of_le (hA b hb) hW.size
          have hcl := least_all (calls3 (room := k) (by omega)) (by omega) zs hl hz a cap W.heap.size zs.length 0 0 (tblI k a zs.length cap) (W.alloc (.cells (tblI k a zs.length cap) 99)) (by omega) (by omega)
            (fun W' hg => hgl.mono (A' := fun b => b < W'.heap.size) (Nat.le_trans hW.size (Nat.le_trans (by simp) hg.size)) fun b hb => by
              have h3 : b < (W.alloc (.cells (tblI k a zs.length cap) 99)).heap.size := by have := hb0 b hb; simp; omega
              refine ⟨Nat.lt_of_lt_of_le h3 hg.size, ?_⟩
              rw [hg.block b h3 (by have := hb0 b hb; simp; omega)]
              exact ((World.grownBy_alloc W _ none).block b (hb0 b hb) (by simp)).trans (hW.block b (hA b hb)))
            ⟨Blk.new W _ _, tblI_size _ _ _ _, tblI_0 _ _ _ _, tblI_1 _ _ _ _, tblI_known _ _ _ _ _⟩
            (fun j hj => by
              rcases hr with hr | ⟨b, o, cur, et, fz, ha, hb, hc, hlen, hx⟩
              · rw [hr] at hj; simp at hj
              · refine ⟨b, o, ha, by have := hb0 b hb; omega, by have := hb0 b hb; simp; omega, ?_⟩
                have h1 := hx j zs[j] (by simp)
                have h2 : (cur.toList.drop (o + j * 1)).take 1 = [.int .i64 zs[j]] := h1
                have h3 : cur.toList[o + j]? = some (.int .i64 zs[j]) := by
                  rw [Nat.mul_one] at h2
                  have := congrArg (fun l => l[0]?) h2
                  simpa [List.getElem?_take, List.getElem?_drop] using this
                have h4 : cur[o + j]? = some (.int .i64 zs[j]) := by rw [← Array.getElem?_toList]; exact h3
                have h5 : (W.alloc (.cells (tblI k a zs.length cap) 99)).heap[b]? = some (.cells cur et fz) := ((World.grownBy_alloc W _ none).block b (hb0 b hb) (by simp)).trans ((hW.block b (hA b hb)).trans hc)
                show (match (W.alloc (.cells (tblI k a zs.length cap) 99)).heap[b]? with | some (.cells c _ _) => c[o + j]? | _ => none) = _
                rw [h5]
                exact h4)
          refine hcl.mono ?_
          rintro e W' ⟨pl, cur', rfl, hT, hg⟩
          refine ⟨pl, rfl, hW.trans ?_⟩
          have h6 := hW.size
          have h7 : (W.alloc (.cells (tblI k a zs.length cap) 99)).heap.size = W.heap.size + 1 := by simp
          refine Below.mono ?_ h6
          refine ⟨hg.os, hg.tape, hg.output, Nat.le_trans (by omega) hg.size, fun b h3 => by
            rw [hg.block b (by simp; omega) (by simp; omega)]
            exact (World.grownBy_alloc W _ none).block b h3 (by simp)⟩)
      refine key.mono ?_
      rintro e W' ⟨rfl, hB⟩
      exact ⟨Grows.of_below hB, [.emp, .emp], [_, _], rfl, rfl, fun b c h => (by cases h), rfl, fun b c h => (by cases h), trivial⟩
end Go.Proofs.YtkfkbebinhkdlaaGreatDoor
set_option linter.unusedVariables false
set_option linter.unusedSimpArgs false
set_option maxRecDepth 100000
namespace Go.Proofs.YtkfkbebinhkdlaaGreatDoor
open Go.Vi
abbrev R48 := Int × Int
def pk48 : List PK := [.c (.pair (.int .i64) (.sl (.int .i64)))]
def rk48 : List RK := [.c (.int .i64) 0, .c (.int .i64) 0]
noncomputable def S48 (n : Nat × Nat) (j0 : Int × List Int) : Option R48 := HF48 j0
noncomputable def P48 (n : Nat × Nat) := phiOf pk48 rk48 (fun xs => S48 n xs.1)
theorem call48 : CallOK Tryz.prog 48 := callOK_of Tryz.func48 (by kernel_rfl) (by kernel_rfl)
theorem FC48 (n : Nat × Nat) : FCs Tryz.prog 48 (P48 n) := phiOf_FCs fun xs r h vs hv => HC48 n xs r h vs hv
/- slices.Index[[][2]int,[2]int] -/
abbrev R85 := Int
noncomputable def c85 : Code := bodyOf Tryz.f85
noncomputable def an85 : Ann := (.s .l (.s (.s .l (.j [] (.j [0, 3, 7, 8] (.s .l (.s (.j [0, 3, 7, 8] .l .l) (.s (.j [0, 3, 7, 8] (.s .l (.s .l (.j [0, 3, 7, 8] .l .l))) .l) .l))) .l) .l)) .l))
def pk85 : List PK := [.c (.sl (.pair (.int .i64) (.int .i64))), .c (.pair (.int .i64) (.int .i64))]
def rk85 : List RK := [.c (.int .i64) 4]
noncomputable def rt85 (st : St) : Option R85 := rtG rk85 st
noncomputable def E85 (n : Nat × Nat) : Env := { T := tab, phi := noPhi, eff := fun _ => false, fuel := n.1, hold := n.2 }
noncomputable def kq85_1 (n : Nat × Nat) : St → Option R85 := run (E85 n) (cB (cB c85)) (Ann.snd (Ann.snd an85)) rt85 (fun _ _ => none) rt85
noncomputable def xb85_3 (n : Nat × Nat) : Nat → St → Option R85 := fun j s => bif Nat.beq j 0 then normC [] s (kq85_1 n) else (fun _ _ => none) j s
noncomputable def F85_4 (n : Nat × Nat) : (St → Option R85) → St → Option R85 := fun K s => run (E85 n) (cA (cA (cB (cA (cB c85))))) (Ann.fst (Ann.fst (Ann.snd (Ann.fst (Ann.snd an85))))) (fun s => normC [0, 3, 7, 8] s K) (xb85_3 n) rt85 s
noncomputable def L85_1 (n : Nat × Nat) (m : Nat) (s0 : List (Int × Int)) (v7 : Int) (v8 : Int) (v3_0 : Int) (v3_1 : Int) : Option R85 := loopN (F85_4 n) m { tm := [.c (.sl (.pair (.int .i64) (.int .i64)) s0 false), uu, uu, .ptr 3 0, uu, uu, uu, .c (.int .i64 v7), .c (.int .i64 v8), uu, uu, uu, uu, uu, uu, uu, uu, uu, uu], hp := (upd emp 3 (.box [.int .i64 v3_0, .int .i64 v3_1])) }
theorem L85_1_eq (n : Nat × Nat) (m1 : Nat) (s0 : List (Int × Int)) (v7 : Int) (v8 : Int) (v3_0 : Int) (v3_1 : Int) : L85_1 n (m1 + 1) s0 v7 v8 v3_0 v3_1 =
 (bif decide (v8 < v7) then (idx s0 v8).bind fun x1' =>
 (bif ((v3_0 == x1'.1) && ((v3_1 == x1'.2) && true)) then some v8
 else L85_1 n m1 s0 v7 (wr .i64 (v8 + 1)) v3_0 v3_1)
 else some (-1)) := by kernel_rfl
noncomputable def S85 (n : Nat × Nat) (s0 : List (Int × Int)) (v1 : Int × Int) : Option R85 := run (E85 n) c85 an85 rt85 (fun _ _ => none) rt85 { tm := [.c (.sl (.pair (.int .i64) (.int .i64)) s0 false), .agg [.int .i64 v1.1, .int .i64 v1.2], uu, uu, uu, uu, uu, uu, uu, uu, uu, uu, uu, uu, uu, uu, uu, uu, uu], hp := emp }
theorem S85_eq (n : Nat × Nat) (s0 : List (Int × Int)) (v1 : Int × Int) : S85 n s0 v1 =
    L85_1 n n.1 s0 (s0.length : Int) 0 v1.1 v1.2 := by kernel_rfl
theorem S85_run (n : Nat × Nat) (xs : pksDen pk85) : S85 n xs.1 xs.2.1 = runG (E85 n) noScope c85 an85 (rtG rk85) (fun _ _ => none) (rtG rk85) (st0 pk85 xs Tryz.f85.ntmps) := by kernel_rfl
noncomputable def P85 (n : Nat × Nat) := phiOf pk85 rk85 (fun xs => S85 n xs.1 xs.2.1)
theorem call85 : CallOK Tryz.prog 85 := callOK_of Tryz.func85 (by kernel_rfl) (by kernel_rfl)
theorem env85 (n : Nat × Nat) : EnvOK Tryz.prog (E85 n) := envOK0 noPhi_ok rfl rfl
theorem par85 (n : Nat × Nat) : EnvPar (E85 n) := envPar0 noPhi_par rfl
theorem FC85 (n : Nat × Nat) : FCs Tryz.prog 85 (P85 n) := phiOf_FCs fun xs r h vs hv => FC.of_runG tabOK eqsOK (env85 n) (par85 n) mixed (fun _ p _ => noScope_ok p.1 p.2) Tryz.func85 (c := c85) (an := an85) (pks := pk85) (rks := rk85) (by kernel_rfl) (by kernel_rfl) hv ((S85_run n xs).symm.trans h)
/- slices.Contains[[][2]int,[2]int] -/
abbrev R74 := Bool
noncomputable def c74 : Code := bodyOf Tryz.f74
noncomputable def an74 : Ann := .l
def pk74 : List PK := [.c (.sl (.pair (.int .i64) (.int .i64))), .c (.pair (.int .i64) (.int .i64))]
def rk74 : List RK := [.c .bool 4]
noncomputable def rt74 (st : St) : Option R74 := rtG rk74 st
noncomputable def E74 (n : Nat × Nat) : Env := { T := tab, phi := (consPhi 85 (fun _ => true) (P85 n) noPhi), eff := fun _ => false, fuel := n.1, hold := n.2 }
noncomputable def S74 (n : Nat × Nat) (s0 : List (Int × Int)) (v1 : Int × Int) : Option R74 := run (E74 n) c74 an74 rt74 (fun _ _ => none) rt74 { tm := [.c (.sl (.pair (.int .i64) (.int .i64)) s0 false), .agg [.int .i64 v1.1, .int .i64 v1.2], uu, uu, uu, uu, uu, uu, uu], hp := emp }
theorem S74_eq (n : Nat × Nat) (s0 : List (Int × Int)) (v1 : Int × Int) : S74 n s0 v1 =
 (S85 n s0 v1).bind fun r1' =>
 some (decide (r1' ≥ 0)) := by kernel_rfl
theorem S74_run (n : Nat × Nat) (xs : pksDen pk74) : S74 n xs.1 xs.2.1 = runG (E74 n) noScope c74 an74 (rtG rk74) (fun _ _ => none) (rtG rk74) (st0 pk74 xs Tryz.f74.ntmps) := by kernel_rfl
noncomputable def P74 (n : Nat × Nat) := phiOf pk74 rk74 (fun xs => S74 n xs.1 xs.2.1)
theorem call74 : CallOK Tryz.prog 74 := callOK_of Tryz.func74 (by kernel_rfl) (by kernel_rfl)
theorem env74 (n : Nat × Nat) : EnvOK Tryz.prog (E74 n) := envOK0 (consPhi_ok (FC85 n) call85 noPhi_ok) rfl rfl
theorem par74 (n : Nat × Nat) : EnvPar (E74 n) := envPar0 (consPhi_par phiOf_Par1 noPhi_par) rfl
theorem FC74 (n : Nat × Nat) : FCs Tryz.prog 74 (P74 n) := phiOf_FCs fun xs r h vs hv => FC.of_runG tabOK eqsOK (env74 n) (par74 n) mixed (fun _ p _ => noScope_ok p.1 p.2) Tryz.func74 (c := c74) (an := an74) (pks := pk74) (rks := rk74) (by kernel_rfl) (by kernel_rfl) hv ((S74_run n xs).symm.trans h)
abbrev R67 := Int
noncomputable def c67 : Code := bodyOf Tryz.f67
noncomputable def an67 : Ann := (.s .l (.s (.j [1, 35, 36, 37, 38, 39, 40, 41, 42] (.s .l (.j [1, 35, 36, 37, 38, 39, 40, 41, 42] .l (.s .l (.j [1, 35, 36, 37, 38, 39, 40, 41, 42] .l .l)))) .l) (.s (.s .l (.j [] (.j [1, 20, 21, 22, 35, 36, 37, 38, 39, 40, 41, 42] (.s .l (.s (.j [1, 20, 21, 22, 35, 36, 37, 38, 39, 40, 41, 42] .l .l) (.s (.j [1, 20, 21, 22, 35, 36, 37, 38, 39, 40, 41, 42] (.s .l (.j [1, 20, 21, 22, 35, 36, 37, 38, 39, 40, 41, 42] (.s .l (.j [1, 20, 21, 22, 35, 36, 37, 38, 39, 40, 41, 42] .l (.s .l (.j [1, 20, 21, 22, 35, 36, 37, 38, 39, 40, 41, 42] .l (.s .l (.j [1, 20, 21, 22, 35, 36, 37, 38, 39, 40, 41, 42] .l .l)))))) .l)) .l) .l))) .l) .l)) .l)))
def pk67 : List PK := [.c (.pair (.int .i64) (.sl (.pair (.int .i64) (.int .i64))))]
def rk67 : List RK := [.c (.int .i64) 2]
noncomputable def rt67 (st : St) : Option R67 := rtG rk67 st
noncomputable def E67 (n : Nat × Nat) : Env := { T := tab, phi := (consPhi 74 (fun _ => true) (P74 n) noPhi), eff := fun _ => false, fuel := n.1, hold := n.2 }
noncomputable def kq67_6 (n : Nat × Nat) : St → Option R67 := run (E67 n) (cB (cB (cB c67))) (Ann.snd (Ann.snd (Ann.snd an67))) rt67 (fun _ _ => none) rt67
noncomputable def xb67_8 (n : Nat × Nat) : Nat → St → Option R67 := fun j s => bif Nat.beq j 1 then normC [] s (kq67_6 n) else (fun _ _ => none) j s
noncomputable def F67_9 (n : Nat × Nat) : (St → Option R67) → St → Option R67 := fun K s => run (E67 n) (cA (cA (cB (cA (cB (cB c67)))))) (Ann.fst (Ann.fst (Ann.snd (Ann.fst (Ann.snd (Ann.snd an67)))))) (fun s => normC [1, 20, 21, 22, 35, 36, 37, 38, 39, 40, 41, 42] s K) (xb67_8 n) rt67 s
noncomputable def L67_1 (n : Nat × Nat) (m : Nat) (v20 : List (Int × Int)) (v21 : Int) (v22 : Int) (b1_0 : Int) (b1_1 : List (Int × Int)) : Option R67 := loopN (F67_9 n) m { tm := [uu, .ptr 1 0, uu, uu, uu, uu, uu, uu, uu, uu, uu, uu, uu, uu, uu, uu, uu, uu, uu, uu, .c (.sl (.pair (.int .i64) (.int .i64)) v20 false), .c (.int .i64 v21), .c (.int .i64 v22), uu, uu, uu, uu, uu, uu, uu, uu, uu, uu, uu, uu, uu, uu, uu, uu, uu, uu, uu, uu, uu, uu, uu, uu, uu, uu, uu, uu, uu, uu, uu, uu, uu, uu, uu], hp := (upd emp 1 (.box [.int .i64 b1_0, .sl (.pair (.int .i64) (.int .i64)) b1_1 false])) }
theorem L67_1_eq (n : Nat × Nat) (m1 : Nat) (v20 : List (Int × Int)) (v21 : Int) (v22 : Int) (b1_0 : Int) (b1_1 : List (Int × Int)) : L67_1 n (m1 + 1) v20 v21 v22 b1_0 b1_1 =
 (bif decide (v22 < v21) then (idx v20 v22).bind fun x2' =>
 (bif inB 0 2 then (idx [x2'.1, x2'.2] 0).bind fun x3' =>
 (bif inB 1 2 then (idx [x2'.1, x2'.2] 1).bind fun x4' =>
 ((bif (decide ((if x4' < x3' then x4' else x3') < 0) == false) then (bif inB 0 2 then (idx [x2'.1, x2'.2] 0).bind fun x5' =>
 (bif inB 1 2 then (idx [x2'.1, x2'.2] 1).bind fun x6' =>
 some (decide ((if x6' > x5' then x6' else x5') ≥ b1_0))
 else none)
 else none)
 else some true)).bind fun b7' =>
 (bif b7' then some 2
 else (bif inB 0 2 then (idx [x2'.1, x2'.2] 0).bind fun x8' =>
 (bif inB 1 2 then (idx [x2'.1, x2'.2] 1).bind fun x9' =>
 (bif decide (x8' ≥ x9') then some 7
 else (bif bounds none (some v22) none b1_1.length then (S74 n (b1_1.take (Int.toNat v22)) x2').bind fun r10' =>
 (bif r10' then some 6
 else L67_1 n m1 v20 v21 (wr .i64 (v22 + 1)) b1_0 b1_1)
 else none))
 else none)
 else none))
 else none)
 else none)
 else some 0) := by kernel_rfl
noncomputable def S67 (n : Nat × Nat) (b0 : Int × List (Int × Int)) : Option R67 := run (E67 n) c67 an67 rt67 (fun _ _ => none) rt67 { tm := [.agg [.int .i64 b0.1, .sl (.pair (.int .i64) (.int .i64)) b0.2 false], uu, uu, uu, uu, uu, uu, uu, uu, uu, uu, uu, uu, uu, uu, uu, uu, uu, uu, uu, uu, uu, uu, uu, uu, uu, uu, uu, uu, uu, uu, uu, uu, uu, uu, uu, uu, uu, uu, uu, uu, uu, uu, uu, uu, uu, uu, uu, uu, uu, uu, uu, uu, uu, uu, uu, uu, uu], hp := emp }
theorem S67_eq (n : Nat × Nat) (b0 : Int × List (Int × Int)) : S67 n b0 =
 ((bif (decide (b0.1 < 1) == false) then some (decide (b0.1 > 7))
 else some true)).bind fun b1' =>
 (bif b1' then some 1
 else (bif decide ((b0.2.length : Int) > 10) then some 3
 else L67_1 n n.1 b0.2 (b0.2.length : Int) 0 b0.1 b0.2)) := by kernel_rfl
theorem S67_run (n : Nat × Nat) (xs : pksDen pk67) : S67 n xs.1 = runG (E67 n) noScope c67 an67 (rtG rk67) (fun _ _ => none) (rtG rk67) (st0 pk67 xs Tryz.f67.ntmps) := by kernel_rfl
noncomputable def P67 (n : Nat × Nat) := phiOf pk67 rk67 (fun xs => S67 n xs.1)
theorem call67 : CallOK Tryz.prog 67 := callOK_of Tryz.func67 (by kernel_rfl) (by kernel_rfl)
theorem env67 (n : Nat × Nat) : EnvOK Tryz.prog (E67 n) := envOK0 (consPhi_ok (FC74 n) call74 noPhi_ok) rfl rfl
theorem par67 (n : Nat × Nat) : EnvPar (E67 n) := envPar0 (consPhi_par phiOf_Par1 noPhi_par) rfl
theorem FC67 (n : Nat × Nat) : FCs Tryz.prog 67 (P67 n) := phiOf_FCs fun xs r h vs hv => FC.of_runG tabOK eqsOK (env67 n) (par67 n) mixed (fun _ p _ => noScope_ok p.1 p.2) Tryz.func67 (c := c67) (an := an67) (pks := pk67) (rks := rk67) (by kernel_rfl) (by kernel_rfl) hv ((S67_run n xs).symm.trans h)
abbrev R75 := List Int
noncomputable def c75 : Code := bodyOf Tryz.f75
noncomputable def an75 : Ann := (.s .l (.s .l (.s (.j [3] (.j [0, 3] (.s (.s .l (.j [0, 3] .l .l)) (.s (.j [0, 3] .l .l) .l)) .l) .l) .l)))
def pk75 : List PK := [.c (.int .u64)]
def rk75 : List RK := [.own (.int .i64) 2]
noncomputable def rt75 (st : St) : Option R75 := rtG rk75 st
noncomputable def E75 (n : Nat × Nat) : Env := { T := tab, phi := (consPhi 73 (fun _ => true) (P73 n) noPhi), eff := fun _ => false, fuel := n.1, hold := n.2 }
noncomputable def kq75_1 (n : Nat × Nat) : St → Option R75 := run (E75 n) (cB (cB (cB c75))) (Ann.snd (Ann.snd (Ann.snd an75))) rt75 (fun _ _ => none) rt75
noncomputable def xb75_3 (n : Nat × Nat) : Nat → St → Option R75 := fun j s => bif Nat.beq j 0 then normC [3] s (kq75_1 n) else (fun _ _ => none) j s
noncomputable def F75_4 (n : Nat × Nat) : (St → Option R75) → St → Option R75 := fun K s => run (E75 n) (cA (cA (cA (cB (cB c75))))) (Ann.fst (Ann.fst (Ann.fst (Ann.snd (Ann.snd an75))))) (fun s => normC [0, 3] s K) (xb75_3 n) rt75 s
noncomputable def L75_1 (n : Nat × Nat) (m : Nat) (v0 : Int) (out3 : List Int) : Option R75 := loopN (F75_4 n) m { tm := [.c (.int .u64 v0), uu, uu, .own 3 none false, uu, uu, uu, uu, uu, uu, uu, uu, uu, uu, uu, uu], hp := (upd emp 3 (.arr (.int .i64) out3 false)) }
theorem L75_1_eq (n : Nat × Nat) (m1 : Nat) (v0 : Int) (out3 : List Int) : L75_1 n (m1 + 1) v0 out3 =
 (bif (v0 != 0) then (S73 n v0).bind fun r1' =>
 (bif decide (out3.length + [r1'].length ≤ lim) then L75_1 n m1 (wr .u64 (BitVec.ofInt (IntKind.bits .u64) v0 &&& BitVec.ofInt (IntKind.bits .u64) (wr .u64 (v0 - 1))).toNat) (out3 ++ [r1'])
 else none)
 else some out3) := by kernel_rfl
noncomputable def S75 (n : Nat × Nat) (v0 : Int) : Option R75 := run (E75 n) c75 an75 rt75 (fun _ _ => none) rt75 { tm := [.c (.int .u64 v0), uu, uu, uu, uu, uu, uu, uu, uu, uu, uu, uu, uu, uu, uu, uu], hp := emp }
theorem S75_eq (n : Nat × Nat) (v0 : Int) : S75 n v0 =
    L75_1 n n.1 v0 [] := by kernel_rfl
theorem S75_run (n : Nat × Nat) (xs : pksDen pk75) : S75 n xs.1 = runG (E75 n) noScope c75 an75 (rtG rk75) (fun _ _ => none) (rtG rk75) (st0 pk75 xs Tryz.f75.ntmps) := by kernel_rfl
noncomputable def P75 (n : Nat × Nat) := phiOf pk75 rk75 (fun xs => S75 n xs.1)
theorem call75 : CallOK Tryz.prog 75 := callOK_of Tryz.func75 (by kernel_rfl) (by kernel_rfl)
theorem env75 (n : Nat × Nat) : EnvOK Tryz.prog (E75 n) := envOK0 (consPhi_ok (FC73 n) call73 noPhi_ok) rfl rfl
theorem par75 (n : Nat × Nat) : EnvPar (E75 n) := envPar0 (consPhi_par phiOf_Par1 noPhi_par) rfl
theorem FC75 (n : Nat × Nat) : FCs Tryz.prog 75 (P75 n) := phiOf_FCs fun xs r h vs hv => FC.of_runG tabOK eqsOK (env75 n) (par75 n) mixed (fun _ p _ => noScope_ok p.1 p.2) Tryz.func75 (c := c75) (an := an75) (pks := pk75) (rks := rk75) (by kernel_rfl) (by kernel_rfl) hv ((S75_run n xs).symm.trans h)
/- (headword/fact.Book).explained$1 -/
abbrev R87 := Bool
noncomputable def c87 : Code := bodyOf Tryz.f87
noncomputable def an87 : Ann := .l
def pk87 : List PK := [.c (.pair (.int .i64) (.int .i64)), .p (.int .u64)]
def rk87 : List RK := [.c .bool 3]
noncomputable def rt87 (st : St) : Option R87 := rtG rk87 st
noncomputable def E87 (n : Nat × Nat) : Env := { T := tab, phi := noPhi, eff := fun _ => false, fuel := n.1, hold := n.2 }
noncomputable def S87 (n : Nat × Nat) (p0 : Int × Int) (v1 : Int) : Option R87 := run (E87 n) c87 an87 rt87 (fun _ _ => none) rt87 { tm := [.agg [.int .i64 p0.1, .int .i64 p0.2], .iptr [.int .u64 v1], uu, uu, uu, uu, uu, uu, uu, uu, uu, uu, uu, uu, uu, uu, uu, uu], hp := emp }
theorem S87_eq (n : Nat × Nat) (p0 : Int × Int) (v1 : Int) : S87 n p0 v1 =
 (bif inB 0 2 then (idx [p0.1, p0.2] 0).bind fun x1' =>
 (bif decide (x1' < 0) then none
 else ((bif (((wr .u64 (BitVec.ofInt (IntKind.bits .u64) (Int.fdiv v1 (2 ^ (min (Int.toNat x1') (IntKind.bits .u64)))) &&& BitVec.ofInt (IntKind.bits .u64) 1).toNat) == 0) == true) then (bif inB 1 2 then (idx [p0.1, p0.2] 1).bind fun x2' =>
 (bif decide (x2' < 0) then none
 else some ((wr .u64 (BitVec.ofInt (IntKind.bits .u64) (Int.fdiv v1 (2 ^ (min (Int.toNat x2') (IntKind.bits .u64)))) &&& BitVec.ofInt (IntKind.bits .u64) 1).toNat) == 0))
 else none)
 else some false)).bind fun b3' =>
 some b3')
 else none) := by kernel_rfl
theorem S87_run (n : Nat × Nat) (xs : pksDen pk87) : S87 n xs.1 xs.2.1 = runG (E87 n) noScope c87 an87 (rtG rk87) (fun _ _ => none) (rtG rk87) (st0 pk87 xs Tryz.f87.ntmps) := by kernel_rfl
noncomputable def P87 (n : Nat × Nat) := phiOf pk87 rk87 (fun xs => S87 n xs.1 xs.2.1)
theorem call87 : CallOK Tryz.prog 87 := callOK_of Tryz.func87 (by kernel_rfl) (by kernel_rfl)
theorem env87 (n : Nat × Nat) : EnvOK Tryz.prog (E87 n) := envOK0 noPhi_ok rfl rfl
theorem par87 (n : Nat × Nat) : EnvPar (E87 n) := envPar0 noPhi_par rfl
theorem FC87 (n : Nat × Nat) : FCs Tryz.prog 87 (P87 n) := phiOf_FCs fun xs r h vs hv => FC.of_runG tabOK eqsOK (env87 n) (par87 n) mixed (fun _ p _ => noScope_ok p.1 p.2) Tryz.func87 (c := c87) (an := an87) (pks := pk87) (rks := rk87) (by kernel_rfl) (by kernel_rfl) hv ((S87_run n xs).symm.trans h)
/- slices.IndexFunc[[][2]int,[2]int] -/
abbrev R96c87 := Int
noncomputable def c96c87 : Code := bodyOf Tryz.f96
noncomputable def an96c87 : Ann := (.s .l (.s (.s .l (.j [] (.j [0, 1, 7, 8] (.s .l (.s (.j [0, 1, 7, 8] .l .l) (.s (.j [0, 1, 7, 8] (.s .l (.s .l (.j [0, 1, 7, 8] .l .l))) .l) .l))) .l) .l)) .l))
def pk96c87 : List PK := [.c (.sl (.pair (.int .i64) (.int .i64))), .f 87 [(.int .u64)]]
def rk96c87 : List RK := [.c (.int .i64) 4]
noncomputable def rt96c87 (st : St) : Option R96c87 := rtG rk96c87 st
noncomputable def E96c87 (n : Nat × Nat) : Env := { T := tab, phi := (consPhi 87 (fun _ => true) (P87 n) noPhi), eff := fun _ => false, fuel := n.1, hold := n.2, pcl := [11] }
noncomputable def kq96c87_1 (n : Nat × Nat) : St → Option R96c87 := run (E96c87 n) (cB (cB c96c87)) (Ann.snd (Ann.snd an96c87)) rt96c87 (fun _ _ => none) rt96c87
noncomputable def xb96c87_3 (n : Nat × Nat) : Nat → St → Option R96c87 := fun j s => bif Nat.beq j 0 then normC [] s (kq96c87_1 n) else (fun _ _ => none) j s
noncomputable def F96c87_4 (n : Nat × Nat) : (St → Option R96c87) → St → Option R96c87 := fun K s => run (E96c87 n) (cA (cA (cB (cA (cB c96c87))))) (Ann.fst (Ann.fst (Ann.snd (Ann.fst (Ann.snd an96c87))))) (fun s => normC [0, 1, 7, 8] s K) (xb96c87_3 n) rt96c87 s
noncomputable def L96c87_1 (n : Nat × Nat) (m : Nat) (s0 : List (Int × Int)) (f1_0 : Int) (v7 : Int) (v8 : Int) : Option R96c87 := loopN (F96c87_4 n) m { tm := [.c (.sl (.pair (.int .i64) (.int .i64)) s0 false), .fn 87 [.iptr [.int .u64 f1_0]], uu, uu, uu, uu, uu, .c (.int .i64 v7), .c (.int .i64 v8), uu, uu, uu, uu, uu, uu, uu, uu, uu, uu], hp := emp }
theorem L96c87_1_eq (n : Nat × Nat) (m1 : Nat) (s0 : List (Int × Int)) (f1_0 : Int) (v7 : Int) (v8 : Int) : L96c87_1 n (m1 + 1) s0 f1_0 v7 v8 =
 (bif decide (v8 < v7) then (idx s0 v8).bind fun x1' =>
 (S87 n x1' f1_0).bind fun r2' =>
 (bif r2' then some v8
 else L96c87_1 n m1 s0 f1_0 v7 (wr .i64 (v8 + 1)))
 else some (-1)) := by kernel_rfl
noncomputable def S96c87 (n : Nat × Nat) (s0 : List (Int × Int)) (cp_1_0 : Int) : Option R96c87 := run (E96c87 n) c96c87 an96c87 rt96c87 (fun _ _ => none) rt96c87 { tm := [.c (.sl (.pair (.int .i64) (.int .i64)) s0 false), .fn 87 [.iptr [.int .u64 cp_1_0]], uu, uu, uu, uu, uu, uu, uu, uu, uu, uu, uu, uu, uu, uu, uu, uu, uu], hp := emp }
theorem S96c87_eq (n : Nat × Nat) (s0 : List (Int × Int)) (cp_1_0 : Int) : S96c87 n s0 cp_1_0 =
    L96c87_1 n n.1 s0 cp_1_0 (s0.length : Int) 0 := by kernel_rfl
theorem S96c87_run (n : Nat × Nat) (xs : pksDen pk96c87) : S96c87 n xs.1 xs.2.1.1 = runG (E96c87 n) noScope c96c87 an96c87 (rtG rk96c87) (fun _ _ => none) (rtG rk96c87) (st0 pk96c87 xs Tryz.f96.ntmps) := by kernel_rfl
noncomputable def P96c87 (n : Nat × Nat) := phiOf pk96c87 rk96c87 (fun xs => S96c87 n xs.1 xs.2.1.1)
theorem call96 : CallOK Tryz.prog 96 := callOK_of Tryz.func96 (by kernel_rfl) (by kernel_rfl)
theorem env96c87 (n : Nat × Nat) : EnvOK Tryz.prog (E96c87 n) := envOK0 (consPhi_ok (FC87 n) call87 noPhi_ok) rfl rfl
theorem par96c87 (n : Nat × Nat) : EnvPar (E96c87 n) := envPar0 (consPhi_par phiOf_Par1 noPhi_par) rfl
theorem FC96c87 (n : Nat × Nat) : FCs Tryz.prog 96 (P96c87 n) := phiOf_FCs fun xs r h vs hv => FC.of_runG tabOK eqsOK (env96c87 n) (par96c87 n) mixed (fun _ p _ => noScope_ok p.1 p.2) Tryz.func96 (c := c96c87) (an := an96c87) (pks := pk96c87) (rks := rk96c87) (by kernel_rfl) (by kernel_rfl) hv ((S96c87_run n xs).symm.trans h)
/- slices.ContainsFunc[[][2]int,[2]int] -/
abbrev R86c87 := Bool
noncomputable def c86c87 : Code := bodyOf Tryz.f86
noncomputable def an86c87 : Ann := .l
def pk86c87 : List PK := [.c (.sl (.pair (.int .i64) (.int .i64))), .f 87 [(.int .u64)]]
def rk86c87 : List RK := [.c .bool 4]
noncomputable def rt86c87 (st : St) : Option R86c87 := rtG rk86c87 st
noncomputable def E86c87 (n : Nat × Nat) : Env := { T := tab, phi := (consPhi 96 (isFns [none, some 87]) (P96c87 n) noPhi), eff := fun _ => false, fuel := n.1, hold := n.2 }
noncomputable def S86c87 (n : Nat × Nat) (s0 : List (Int × Int)) (cp_1_0 : Int) : Option R86c87 := run (E86c87 n) c86c87 an86c87 rt86c87 (fun _ _ => none) rt86c87 { tm := [.c (.sl (.pair (.int .i64) (.int .i64)) s0 false), .fn 87 [.iptr [.int .u64 cp_1_0]], uu, uu, uu, uu, uu, uu, uu], hp := emp }
theorem S86c87_eq (n : Nat × Nat) (s0 : List (Int × Int)) (cp_1_0 : Int) : S86c87 n s0 cp_1_0 =
 (S96c87 n s0 cp_1_0).bind fun r1' =>
 some (decide (r1' ≥ 0)) := by kernel_rfl
theorem S86c87_run (n : Nat × Nat) (xs : pksDen pk86c87) : S86c87 n xs.1 xs.2.1.1 = runG (E86c87 n) noScope c86c87 an86c87 (rtG rk86c87) (fun _ _ => none) (rtG rk86c87) (st0 pk86c87 xs Tryz.f86.ntmps) := by kernel_rfl
noncomputable def P86c87 (n : Nat × Nat) := phiOf pk86c87 rk86c87 (fun xs => S86c87 n xs.1 xs.2.1.1)
theorem call86 : CallOK Tryz.prog 86 := callOK_of Tryz.func86 (by kernel_rfl) (by kernel_rfl)
theorem env86c87 (n : Nat × Nat) : EnvOK Tryz.prog (E86c87 n) := envOK0 (consPhi_ok (FC96c87 n) call96 noPhi_ok) rfl rfl
theorem par86c87 (n : Nat × Nat) : EnvPar (E86c87 n) := envPar0 (consPhi_par phiOf_Par1 noPhi_par) rfl
theorem FC86c87 (n : Nat × Nat) : FCs Tryz.prog 86 (P86c87 n) := phiOf_FCs fun xs r h vs hv => FC.of_runG tabOK eqsOK (env86c87 n) (par86c87 n) mixed (fun _ p _ => noScope_ok p.1 p.2) Tryz.func86 (c := c86c87) (an := an86c87) (pks := pk86c87) (rks := rk86c87) (by kernel_rfl) (by kernel_rfl) hv ((S86c87_run n xs).symm.trans h)
/- (headword/fact.Book).explained -/
abbrev R76 := Bool
noncomputable def c76 : Code := bodyOf Tryz.f76
noncomputable def an76 : Ann := .l
def pk76 : List PK := [.c (.pair (.int .i64) (.sl (.pair (.int .i64) (.int .i64)))), .c (.int .u64)]
def rk76 : List RK := [.c .bool 4]
noncomputable def rt76 (st : St) : Option R76 := rtG rk76 st
noncomputable def E76 (n : Nat × Nat) : Env := { T := tab, phi := (consPhi 86 (isFns [none, some 87]) (P86c87 n) noPhi), eff := fun _ => false, fuel := n.1, hold := n.2 }
noncomputable def S76 (n : Nat × Nat) (b0 : Int × List (Int × Int)) (v1 : Int) : Option R76 := run (E76 n) c76 an76 rt76 (fun _ _ => none) rt76 { tm := [.agg [.int .i64 b0.1, .sl (.pair (.int .i64) (.int .i64)) b0.2 false], .c (.int .u64 v1), uu, uu, uu, uu, uu, uu, uu, uu], hp := emp }
theorem S76_eq (n : Nat × Nat) (b0 : Int × List (Int × Int)) (v1 : Int) : S76 n b0 v1 =
 (S86c87 n b0.2 v1).bind fun r1' =>
 some (!r1') := by kernel_rfl
theorem S76_run (n : Nat × Nat) (xs : pksDen pk76) : S76 n xs.1 xs.2.1 = runG (E76 n) noScope c76 an76 (rtG rk76) (fun _ _ => none) (rtG rk76) (st0 pk76 xs Tryz.f76.ntmps) := by kernel_rfl
noncomputable def P76 (n : Nat × Nat) := phiOf pk76 rk76 (fun xs => S76 n xs.1 xs.2.1)
theorem call76 : CallOK Tryz.prog 76 := callOK_of Tryz.func76 (by kernel_rfl) (by kernel_rfl)
theorem env76 (n : Nat × Nat) : EnvOK Tryz.prog (E76 n) := envOK0 (consPhi_ok (FC86c87 n) call86 noPhi_ok) rfl rfl
theorem par76 (n : Nat × Nat) : EnvPar (E76 n) := envPar0 (consPhi_par phiOf_Par1 noPhi_par) rfl
theorem FC76 (n : Nat × Nat) : FCs Tryz.prog 76 (P76 n) := phiOf_FCs fun xs r h vs hv => FC.of_runG tabOK eqsOK (env76 n) (par76 n) mixed (fun _ p _ => noScope_ok p.1 p.2) Tryz.func76 (c := c76) (an := an76) (pks := pk76) (rks := rk76) (by kernel_rfl) (by kernel_rfl) hv ((S76_run n xs).symm.trans h)
/- (headword/fact.Book).shortest -/
abbrev R68 := List Int × Int
noncomputable def c68 : Code := bodyOf Tryz.f68
noncomputable def an68 : Ann := (.s .l (.s .l (.s .l (.s (.s .l (.j [4, 5] (.j [1, 4, 5, 10, 11, 21, 22, 23, 24, 25, 26, 27, 28, 29, 34, 35, 36, 37, 38] (.s .l (.s (.j [1, 4, 5, 10, 11, 21, 22, 23, 24, 25, 26, 27, 28, 29, 34, 35, 36, 37, 38] .l .l) (.j [] (.j [1, 4, 5, 10, 11, 21, 22, 23, 24, 25, 26, 27, 28, 29, 34, 35, 36, 37, 38] (.s .l (.s .l (.s (.s .l (.j [1, 4, 5, 7, 10, 11, 21, 22, 23, 24, 25, 26, 27, 28, 29, 34, 35, 36, 37, 38] .l .l)) (.s (.s .l (.j [1, 4, 5, 7, 10, 11, 21, 22, 23, 24, 25, 26, 27, 28, 29, 34, 35, 36, 37, 38] .l .l)) (.s .l (.s .l (.j [1, 4, 5, 10, 11, 21, 22, 23, 24, 25, 26, 27, 28, 29, 34, 35, 36, 37, 38] .l .l))))))) .l) .l))) .l) .l)) .l))))
def pk68 : List PK := [.c (.pair (.int .i64) (.sl (.pair (.int .i64) (.int .i64))))]
def rk68 : List RK := [.own (.int .i64) 2, .c (.int .i64) 3]
noncomputable def rt68 (st : St) : Option R68 := rtG rk68 st
noncomputable def E68 (n : Nat × Nat) : Env := { T := tab, phi := (consPhi 47 (fun _ => true) (P47 n) (consPhi 75 (fun _ => true) (P75 n) (consPhi 76 (fun _ => true) (P76 n) noPhi))), eff := fun _ => false, fuel := n.1, hold := n.2 }
noncomputable def kq68_1 (n : Nat × Nat) : St → Option R68 := run (E68 n) (cB (cB (cB (cB c68)))) (Ann.snd (Ann.snd (Ann.snd (Ann.snd an68)))) rt68 (fun _ _ => none) rt68
noncomputable def xb68_3 (n : Nat × Nat) : Nat → St → Option R68 := fun j s => bif Nat.beq j 0 then normC [4, 5] s (kq68_1 n) else (fun _ _ => none) j s
noncomputable def F68_4 (n : Nat × Nat) : (St → Option R68) → St → Option R68 := fun K s => run (E68 n) (cA (cA (cB (cA (cB (cB (cB c68))))))) (Ann.fst (Ann.fst (Ann.snd (Ann.fst (Ann.snd (Ann.snd (Ann.snd an68))))))) (fun s => normC [1, 4, 5, 10, 11, 21, 22, 23, 24, 25, 26, 27, 28, 29, 34, 35, 36, 37, 38] s K) (xb68_3 n) rt68 s
noncomputable def kq68_7 (n : Nat × Nat) (m1 : Nat) : St → Option R68 := run (E68 n) (cB (cB (cB (cA (cA (cB (cA (cB (cB (cB c68)))))))))) (Ann.snd (Ann.snd (Ann.snd (Ann.fst (Ann.fst (Ann.snd (Ann.fst (Ann.snd (Ann.snd (Ann.snd an68)))))))))) (fun s => normC [1, 4, 5, 10, 11, 21, 22, 23, 24, 25, 26, 27, 28, 29, 34, 35, 36, 37, 38] s (loopN (F68_4 n) m1)) (xb68_3 n) rt68
noncomputable def L68_1 (n : Nat × Nat) (m : Nat) (many5 : Int) (v10 : Int) (v11 : Int) (b1_0 : Int) (b1_1 : List (Int × Int)) (best4 : List Int) : Option R68 := loopN (F68_4 n) m { tm := [uu, .ptr 1 0, uu, uu, .own 4 none false, .c (.int .i64 many5), uu, uu, uu, uu, .c (.int .u64 v10), .c (.int .u64 v11), uu, uu, uu, uu, uu, uu, uu, uu, uu, uu, uu, uu, uu, uu, uu, uu, uu, uu, uu, uu, uu, uu, uu, uu, uu, uu, uu, uu, uu, uu, uu, uu, uu, uu, uu, uu, uu, uu, uu], hp := (upd (upd emp 4 (.arr (.int .i64) best4 false)) 1 (.box [.int .i64 b1_0, .sl (.pair (.int .i64) (.int .i64)) b1_1 false])) }
noncomputable def L68_2 (n : Nat × Nat) (m1 : Nat) (many5 : Int) (v10 : Int) (v11 : Int) (b1_0 : Int) (b1_1 : List (Int × Int)) (best4 : List Int) : Option R68 := loopN (fun _ => (kq68_7 n m1)) n.2 { tm := [uu, .ptr 1 0, uu, uu, .own 4 none false, .c (.int .i64 many5), uu, uu, uu, uu, .c (.int .u64 v10), .c (.int .u64 v11), uu, uu, uu, uu, uu, uu, uu, uu, uu, uu, uu, uu, uu, uu, uu, uu, uu, uu, uu, uu, uu, uu, uu, uu, uu, uu, uu, uu, uu, uu, uu, uu, uu, uu, uu, uu, uu, uu, uu], hp := (upd (upd emp 4 (.arr (.int .i64) best4 false)) 1 (.box [.int .i64 b1_0, .sl (.pair (.int .i64) (.int .i64)) b1_1 false])) }
theorem L68_1_eq (n : Nat × Nat) (m1 : Nat) (many5 : Int) (v10 : Int) (v11 : Int) (b1_0 : Int) (b1_1 : List (Int × Int)) (best4 : List Int) : L68_1 n (m1 + 1) many5 v10 v11 b1_0 b1_1 best4 =
 (bif decide (v11 < v10) then (S75 n v11).bind fun r1' =>
 (S76 n (b1_0, b1_1) v11).bind fun r2' =>
 ((bif ((!r2') == false) then ((bif (decide (many5 > 0) == true) then some (decide ((r1'.length : Int) > (best4.length : Int)))
 else some false)).bind fun b3' =>
 some b3'
 else some true)).bind fun b4' =>
 (bif b4' then L68_2 n m1 many5 v10 v11 b1_0 b1_1 best4
 else ((bif ((many5 == 0) == false) then some (decide ((r1'.length : Int) < (best4.length : Int)))
 else some true)).bind fun b5' =>
 (bif b5' then L68_2 n m1 1 v10 v11 b1_0 b1_1 r1'
 else (S47 n r1' best4).bind fun r6' =>
 (bif decide (r6' < 0) then L68_2 n m1 (wr .i64 (many5 + 1)) v10 v11 b1_0 b1_1 r1'
 else L68_2 n m1 (wr .i64 (many5 + 1)) v10 v11 b1_0 b1_1 best4)))
 else some (best4, many5)) := by kernel_rfl
theorem L68_2_raw (n : Nat × Nat) (m1 : Nat) (many5 : Int) (v10 : Int) (v11 : Int) (b1_0 : Int) (b1_1 : List (Int × Int)) (best4 : List Int) : (kq68_7 n m1) { tm := [uu, .ptr 1 0, uu, uu, .own 4 none false, .c (.int .i64 many5), uu, uu, uu, uu, .c (.int .u64 v10), .c (.int .u64 v11), uu, uu, uu, uu, uu, uu, uu, uu, uu, uu, uu, uu, uu, uu, uu, uu, uu, uu, uu, uu, uu, uu, uu, uu, uu, uu, uu, uu, uu, uu, uu, uu, uu, uu, uu, uu, uu, uu, uu], hp := (upd (upd emp 4 (.arr (.int .i64) best4 false)) 1 (.box [.int .i64 b1_0, .sl (.pair (.int .i64) (.int .i64)) b1_1 false])) } =
    L68_1 n m1 many5 v10 (wr .u64 (v11 + 1)) b1_0 b1_1 best4 := by kernel_rfl
noncomputable def S68 (n : Nat × Nat) (b0 : Int × List (Int × Int)) : Option R68 := run (E68 n) c68 an68 rt68 (fun _ _ => none) rt68 { tm := [.agg [.int .i64 b0.1, .sl (.pair (.int .i64) (.int .i64)) b0.2 false], uu, uu, uu, uu, uu, uu, uu, uu, uu, uu, uu, uu, uu, uu, uu, uu, uu, uu, uu, uu, uu, uu, uu, uu, uu, uu, uu, uu, uu, uu, uu, uu, uu, uu, uu, uu, uu, uu, uu, uu, uu, uu, uu, uu, uu, uu, uu, uu, uu, uu], hp := emp }
theorem S68_eq (n : Nat × Nat) (b0 : Int × List (Int × Int)) : S68 n b0 =
 (bif decide (b0.1 < 0) then none
 else L68_1 n n.1 0 (wr .u64 (1 * 2 ^ (min (Int.toNat b0.1) (IntKind.bits .u64)))) 0 b0.1 b0.2 []) := by kernel_rfl
theorem S68_run (n : Nat × Nat) (xs : pksDen pk68) : S68 n xs.1 = runG (E68 n) noScope c68 an68 (rtG rk68) (fun _ _ => none) (rtG rk68) (st0 pk68 xs Tryz.f68.ntmps) := by kernel_rfl
noncomputable def P68 (n : Nat × Nat) := phiOf pk68 rk68 (fun xs => S68 n xs.1)
theorem call68 : CallOK Tryz.prog 68 := callOK_of Tryz.func68 (by kernel_rfl) (by kernel_rfl)
theorem env68 (n : Nat × Nat) : EnvOK Tryz.prog (E68 n) := envOK0 (consPhi_ok (FC47 n) call47 (consPhi_ok (FC75 n) call75 (consPhi_ok (FC76 n) call76 noPhi_ok))) rfl rfl
theorem par68 (n : Nat × Nat) : EnvPar (E68 n) := envPar0 (consPhi_par phiOf_Par1 (consPhi_par phiOf_Par1 (consPhi_par phiOf_Par1 noPhi_par))) rfl
theorem FC68 (n : Nat × Nat) : FCs Tryz.prog 68 (P68 n) := phiOf_FCs fun xs r h vs hv => FC.of_runG tabOK eqsOK (env68 n) (par68 n) mixed (fun _ p _ => noScope_ok p.1 p.2) Tryz.func68 (c := c68) (an := an68) (pks := pk68) (rks := rk68) (by kernel_rfl) (by kernel_rfl) hv ((S68_run n xs).symm.trans h)
abbrev R57 := List Int × Int
noncomputable def c57 : Code := bodyOf Tryz.f57
noncomputable def an57 : Ann := (.s .l (.s (.s .l (.s .l (.j [1] .l .l))) .l))
def pk57 : List PK := [.c (.pair (.int .i64) (.sl (.pair (.int .i64) (.int .i64))))]
def rk57 : List RK := [.own (.int .i64) 2, .c (.int .i64) 3]
noncomputable def rt57 (st : St) : Option R57 := rtG rk57 st
noncomputable def E57 (n : Nat × Nat) : Env := { T := tab, phi := (consPhi 67 (fun _ => true) (P67 n) (consPhi 68 (fun _ => true) (P68 n) noPhi)), eff := fun _ => false, fuel := n.1, hold := n.2 }
noncomputable def S57 (n : Nat × Nat) (b0 : Int × List (Int × Int)) : Option R57 := run (E57 n) c57 an57 rt57 (fun _ _ => none) rt57 { tm := [.agg [.int .i64 b0.1, .sl (.pair (.int .i64) (.int .i64)) b0.2 false], uu, uu, uu, uu, uu, uu, uu, uu, uu, uu, uu, uu, uu, uu, uu, uu, uu], hp := emp }
theorem S57_eq (n : Nat × Nat) (b0 : Int × List (Int × Int)) : S57 n b0 =
 (S67 n b0).bind fun r1' =>
 (bif (r1' != 0) then some ([], r1')
 else (S68 n b0).bind fun r2' =>
 some (r2'.1, 0)) := by kernel_rfl
theorem S57_run (n : Nat × Nat) (xs : pksDen pk57) : S57 n xs.1 = runG (E57 n) noScope c57 an57 (rtG rk57) (fun _ _ => none) (rtG rk57) (st0 pk57 xs Tryz.f57.ntmps) := by kernel_rfl
noncomputable def P57 (n : Nat × Nat) := phiOf pk57 rk57 (fun xs => S57 n xs.1)
theorem call57 : CallOK Tryz.prog 57 := callOK_of Tryz.func57 (by kernel_rfl) (by kernel_rfl)
theorem env57 (n : Nat × Nat) : EnvOK Tryz.prog (E57 n) := envOK0 (consPhi_ok (FC67 n) call67 (consPhi_ok (FC68 n) call68 noPhi_ok)) rfl rfl
theorem par57 (n : Nat × Nat) : EnvPar (E57 n) := envPar0 (consPhi_par phiOf_Par1 (consPhi_par phiOf_Par1 noPhi_par)) rfl
theorem FC57 (n : Nat × Nat) : FCs Tryz.prog 57 (P57 n) := phiOf_FCs fun xs r h vs hv => FC.of_runG tabOK eqsOK (env57 n) (par57 n) mixed (fun _ p _ => noScope_ok p.1 p.2) Tryz.func57 (c := c57) (an := an57) (pks := pk57) (rks := rk57) (by kernel_rfl) (by kernel_rfl) hv ((S57_run n xs).symm.trans h)
abbrev R97 := Int
noncomputable def c97 : Code := bodyOf Tryz.f97
noncomputable def an97 : Ann := (.s .l (.s (.j [1, 35, 36, 37, 38, 39, 40, 41, 42] (.s .l (.j [1, 35, 36, 37, 38, 39, 40, 41, 42] .l (.s .l (.j [1, 35, 36, 37, 38, 39, 40, 41, 42] .l .l)))) .l) (.s (.s .l (.j [] (.j [1, 20, 21, 22, 35, 36, 37, 38, 39, 40, 41, 42] (.s .l (.s (.j [1, 20, 21, 22, 35, 36, 37, 38, 39, 40, 41, 42] .l .l) (.s (.j [1, 20, 21, 22, 35, 36, 37, 38, 39, 40, 41, 42] (.s .l (.j [1, 20, 21, 22, 35, 36, 37, 38, 39, 40, 41, 42] (.s .l (.j [1, 20, 21, 22, 35, 36, 37, 38, 39, 40, 41, 42] .l (.s .l (.j [1, 20, 21, 22, 35, 36, 37, 38, 39, 40, 41, 42] .l (.s .l (.j [1, 20, 21, 22, 35, 36, 37, 38, 39, 40, 41, 42] .l .l)))))) .l)) .l) .l))) .l) .l)) .l)))
def pk97 : List PK := [.c (.pair (.int .i64) (.sl (.pair (.int .i64) (.int .i64))))]
def rk97 : List RK := [.c (.int .i64) 2]
noncomputable def rt97 (st : St) : Option R97 := rtG rk97 st
noncomputable def E97 (n : Nat × Nat) : Env := { T := tab, phi := (consPhi 74 (fun _ => true) (P74 n) noPhi), eff := fun _ => false, fuel := n.1, hold := n.2 }
noncomputable def kq97_6 (n : Nat × Nat) : St → Option R97 := run (E97 n) (cB (cB (cB c97))) (Ann.snd (Ann.snd (Ann.snd an97))) rt97 (fun _ _ => none) rt97
noncomputable def xb97_8 (n : Nat × Nat) : Nat → St → Option R97 := fun j s => bif Nat.beq j 1 then normC [] s (kq97_6 n) else (fun _ _ => none) j s
noncomputable def F97_9 (n : Nat × Nat) : (St → Option R97) → St → Option R97 := fun K s => run (E97 n) (cA (cA (cB (cA (cB (cB c97)))))) (Ann.fst (Ann.fst (Ann.snd (Ann.fst (Ann.snd (Ann.snd an97)))))) (fun s => normC [1, 20, 21, 22, 35, 36, 37, 38, 39, 40, 41, 42] s K) (xb97_8 n) rt97 s
noncomputable def L97_1 (n : Nat × Nat) (m : Nat) (v20 : List (Int × Int)) (v21 : Int) (v22 : Int) (b1_0 : Int) (b1_1 : List (Int × Int)) : Option R97 := loopN (F97_9 n) m { tm := [uu, .ptr 1 0, uu, uu, uu, uu, uu, uu, uu, uu, uu, uu, uu, uu, uu, uu, uu, uu, uu, uu, .c (.sl (.pair (.int .i64) (.int .i64)) v20 false), .c (.int .i64 v21), .c (.int .i64 v22), uu, uu, uu, uu, uu, uu, uu, uu, uu, uu, uu, uu, uu, uu, uu, uu, uu, uu, uu, uu, uu, uu, uu, uu, uu, uu, uu, uu, uu, uu, uu, uu, uu, uu, uu], hp := (upd emp 1 (.box [.int .i64 b1_0, .sl (.pair (.int .i64) (.int .i64)) b1_1 false])) }
theorem L97_1_eq (n : Nat × Nat) (m1 : Nat) (v20 : List (Int × Int)) (v21 : Int) (v22 : Int) (b1_0 : Int) (b1_1 : List (Int × Int)) : L97_1 n (m1 + 1) v20 v21 v22 b1_0 b1_1 =
 (bif decide (v22 < v21) then (idx v20 v22).bind fun x2' =>
 (bif inB 0 2 then (idx [x2'.1, x2'.2] 0).bind fun x3' =>
 (bif inB 1 2 then (idx [x2'.1, x2'.2] 1).bind fun x4' =>
 ((bif (decide ((if x4' < x3' then x4' else x3') < 0) == false) then (bif inB 0 2 then (idx [x2'.1, x2'.2] 0).bind fun x5' =>
 (bif inB 1 2 then (idx [x2'.1, x2'.2] 1).bind fun x6' =>
 some (decide ((if x6' > x5' then x6' else x5') ≥ b1_0))
 else none)
 else none)
 else some true)).bind fun b7' =>
 (bif b7' then some 2
 else (bif inB 0 2 then (idx [x2'.1, x2'.2] 0).bind fun x8' =>
 (bif inB 1 2 then (idx [x2'.1, x2'.2] 1).bind fun x9' =>
 (bif (x8' == x9') then some 5
 else (bif bounds none (some v22) none b1_1.length then (S74 n (b1_1.take (Int.toNat v22)) x2').bind fun r10' =>
 (bif r10' then some 6
 else L97_1 n m1 v20 v21 (wr .i64 (v22 + 1)) b1_0 b1_1)
 else none))
 else none)
 else none))
 else none)
 else none)
 else some 0) := by kernel_rfl
noncomputable def S97 (n : Nat × Nat) (b0 : Int × List (Int × Int)) : Option R97 := run (E97 n) c97 an97 rt97 (fun _ _ => none) rt97 { tm := [.agg [.int .i64 b0.1, .sl (.pair (.int .i64) (.int .i64)) b0.2 false], uu, uu, uu, uu, uu, uu, uu, uu, uu, uu, uu, uu, uu, uu, uu, uu, uu, uu, uu, uu, uu, uu, uu, uu, uu, uu, uu, uu, uu, uu, uu, uu, uu, uu, uu, uu, uu, uu, uu, uu, uu, uu, uu, uu, uu, uu, uu, uu, uu, uu, uu, uu, uu, uu, uu, uu, uu], hp := emp }
theorem S97_eq (n : Nat × Nat) (b0 : Int × List (Int × Int)) : S97 n b0 =
 ((bif (decide (b0.1 < 1) == false) then some (decide (b0.1 > 7))
 else some true)).bind fun b1' =>
 (bif b1' then some 1
 else (bif decide ((b0.2.length : Int) > 16) then some 3
 else L97_1 n n.1 b0.2 (b0.2.length : Int) 0 b0.1 b0.2)) := by kernel_rfl
theorem S97_run (n : Nat × Nat) (xs : pksDen pk97) : S97 n xs.1 = runG (E97 n) noScope c97 an97 (rtG rk97) (fun _ _ => none) (rtG rk97) (st0 pk97 xs Tryz.f97.ntmps) := by kernel_rfl
noncomputable def P97 (n : Nat × Nat) := phiOf pk97 rk97 (fun xs => S97 n xs.1)
theorem call97 : CallOK Tryz.prog 97 := callOK_of Tryz.func97 (by kernel_rfl) (by kernel_rfl)
theorem env97 (n : Nat × Nat) : EnvOK Tryz.prog (E97 n) := envOK0 (consPhi_ok (FC74 n) call74 noPhi_ok) rfl rfl
theorem par97 (n : Nat × Nat) : EnvPar (E97 n) := envPar0 (consPhi_par phiOf_Par1 noPhi_par) rfl
theorem FC97 (n : Nat × Nat) : FCs Tryz.prog 97 (P97 n) := phiOf_FCs fun xs r h vs hv => FC.of_runG tabOK eqsOK (env97 n) (par97 n) mixed (fun _ p _ => noScope_ok p.1 p.2) Tryz.func97 (c := c97) (an := an97) (pks := pk97) (rks := rk97) (by kernel_rfl) (by kernel_rfl) hv ((S97_run n xs).symm.trans h)
abbrev R88 := (Int × Int × Int × Int × Int × Int × Int × Int) × Int
noncomputable def c88 : Code := bodyOf Tryz.f88
noncomputable def an88 : Ann := (.s .l (.s .l (.s (.s .l (.s .l (.j [1, 2, 4] .l .l))) (.s (.s .l (.j [2, 4] (.j [2, 4, 18, 19, 20] (.s .l (.s (.j [2, 4, 18, 19, 20] .l .l) (.s (.j [2, 4, 18, 19, 20] .l .l) .l))) .l) .l)) .l))))
def pk88 : List PK := [.c (.pair (.int .i64) (.sl (.pair (.int .i64) (.int .i64))))]
def rk88 : List RK := [.box (.pair (.int .i64) (.pair (.int .u64) (.pair (.int .u64) (.pair (.int .u64) (.pair (.int .u64) (.pair (.int .u64) (.pair (.int .u64) (.int .u64)))))))) 2, .c (.int .i64) 3]
noncomputable def rt88 (st : St) : Option R88 := rtG rk88 st
noncomputable def E88 (n : Nat × Nat) : Env := { T := tab, phi := (consPhi 97 (fun _ => true) (P97 n) noPhi), eff := fun _ => false, fuel := n.1, hold := n.2 }
noncomputable def kq88_3 (n : Nat × Nat) : St → Option R88 := run (E88 n) (cB (cB (cB (cB c88)))) (Ann.snd (Ann.snd (Ann.snd (Ann.snd an88)))) rt88 (fun _ _ => none) rt88
noncomputable def xb88_5 (n : Nat × Nat) : Nat → St → Option R88 := fun j s => bif Nat.beq j 0 then normC [2, 4] s (kq88_3 n) else (fun _ _ => none) j s
noncomputable def F88_6 (n : Nat × Nat) : (St → Option R88) → St → Option R88 := fun K s => run (E88 n) (cA (cA (cB (cA (cB (cB (cB c88))))))) (Ann.fst (Ann.fst (Ann.snd (Ann.fst (Ann.snd (Ann.snd (Ann.snd an88))))))) (fun s => normC [2, 4, 18, 19, 20] s K) (xb88_5 n) rt88 s
noncomputable def L88_1 (n : Nat × Nat) (m : Nat) (v18 : List (Int × Int)) (v19 : Int) (v20 : Int) (v2_0 : Int) (v2_1 : Int) (v2_2 : Int) (v2_3 : Int) (v2_4 : Int) (v2_5 : Int) (v2_6 : Int) (v2_7 : Int) (w4_0 : Int) (w4_1 : Int) (w4_2 : Int) (w4_3 : Int) (w4_4 : Int) (w4_5 : Int) (w4_6 : Int) (w4_7 : Int) : Option R88 := loopN (F88_6 n) m { tm := [uu, uu, .ptr 2 0, uu, .ptr 4 0, uu, uu, uu, uu, uu, uu, uu, uu, uu, uu, uu, uu, uu, .c (.sl (.pair (.int .i64) (.int .i64)) v18 false), .c (.int .i64 v19), .c (.int .i64 v20), uu, uu, uu, uu, uu, uu, uu, uu, uu, uu, uu, uu, uu, uu, uu, uu], hp := (upd (upd emp 4 (.box [.int .i64 w4_0, .int .u64 w4_1, .int .u64 w4_2, .int .u64 w4_3, .int .u64 w4_4, .int .u64 w4_5, .int .u64 w4_6, .int .u64 w4_7])) 2 (.box [.int .i64 v2_0, .int .u64 v2_1, .int .u64 v2_2, .int .u64 v2_3, .int .u64 v2_4, .int .u64 v2_5, .int .u64 v2_6, .int .u64 v2_7])) }
theorem L88_1_eq (n : Nat × Nat) (m1 : Nat) (v18 : List (Int × Int)) (v19 : Int) (v20 : Int) (v2_0 : Int) (v2_1 : Int) (v2_2 : Int) (v2_3 : Int) (v2_4 : Int) (v2_5 : Int) (v2_6 : Int) (v2_7 : Int) (w4_0 : Int) (w4_1 : Int) (w4_2 : Int) (w4_3 : Int) (w4_4 : Int) (w4_5 : Int) (w4_6 : Int) (w4_7 : Int) : L88_1 n (m1 + 1) v18 v19 v20 v2_0 v2_1 v2_2 v2_3 v2_4 v2_5 v2_6 v2_7 w4_0 w4_1 w4_2 w4_3 w4_4 w4_5 w4_6 w4_7 =
 (bif decide (v20 < v19) then (idx v18 v20).bind fun x2' =>
 (bif inB 0 2 then (idx [x2'.1, x2'.2] 0).bind fun x3' =>
 (bif inB x3' 7 then (idx [w4_1, w4_2, w4_3, w4_4, w4_5, w4_6, w4_7] x3').bind fun x4' =>
 (bif inB 1 2 then (idx [x2'.1, x2'.2] 1).bind fun x5' =>
 (bif decide (x5' < 0) then none
 else (bif inB x3' 7 then L88_1 n m1 v18 v19 (wr .i64 (v20 + 1)) v2_0 v2_1 v2_2 v2_3 v2_4 v2_5 v2_6 v2_7 w4_0 (bif (x3' == 0) then wr .u64 (BitVec.ofInt (IntKind.bits .u64) x4' ||| BitVec.ofInt (IntKind.bits .u64) (wr .u64 (1 * 2 ^ (min (Int.toNat x5') (IntKind.bits .u64))))).toNat else w4_1) (bif (x3' == 1) then wr .u64 (BitVec.ofInt (IntKind.bits .u64) x4' ||| BitVec.ofInt (IntKind.bits .u64) (wr .u64 (1 * 2 ^ (min (Int.toNat x5') (IntKind.bits .u64))))).toNat else w4_2) (bif (x3' == 2) then wr .u64 (BitVec.ofInt (IntKind.bits .u64) x4' ||| BitVec.ofInt (IntKind.bits .u64) (wr .u64 (1 * 2 ^ (min (Int.toNat x5') (IntKind.bits .u64))))).toNat else w4_3) (bif (x3' == 3) then wr .u64 (BitVec.ofInt (IntKind.bits .u64) x4' ||| BitVec.ofInt (IntKind.bits .u64) (wr .u64 (1 * 2 ^ (min (Int.toNat x5') (IntKind.bits .u64))))).toNat else w4_4) (bif (x3' == 4) then wr .u64 (BitVec.ofInt (IntKind.bits .u64) x4' ||| BitVec.ofInt (IntKind.bits .u64) (wr .u64 (1 * 2 ^ (min (Int.toNat x5') (IntKind.bits .u64))))).toNat else w4_5) (bif (x3' == 5) then wr .u64 (BitVec.ofInt (IntKind.bits .u64) x4' ||| BitVec.ofInt (IntKind.bits .u64) (wr .u64 (1 * 2 ^ (min (Int.toNat x5') (IntKind.bits .u64))))).toNat else w4_6) (bif (x3' == 6) then wr .u64 (BitVec.ofInt (IntKind.bits .u64) x4' ||| BitVec.ofInt (IntKind.bits .u64) (wr .u64 (1 * 2 ^ (min (Int.toNat x5') (IntKind.bits .u64))))).toNat else w4_7)
 else none))
 else none)
 else none)
 else none)
 else some ((w4_0, w4_1, w4_2, w4_3, w4_4, w4_5, w4_6, w4_7), 0)) := by kernel_rfl
noncomputable def S88 (n : Nat × Nat) (b0 : Int × List (Int × Int)) : Option R88 := run (E88 n) c88 an88 rt88 (fun _ _ => none) rt88 { tm := [.agg [.int .i64 b0.1, .sl (.pair (.int .i64) (.int .i64)) b0.2 false], uu, uu, uu, uu, uu, uu, uu, uu, uu, uu, uu, uu, uu, uu, uu, uu, uu, uu, uu, uu, uu, uu, uu, uu, uu, uu, uu, uu, uu, uu, uu, uu, uu, uu, uu, uu], hp := emp }
theorem S88_eq (n : Nat × Nat) (b0 : Int × List (Int × Int)) : S88 n b0 =
 (S97 n b0).bind fun r1' =>
 (bif (r1' != 0) then some ((b0.1, 0, 0, 0, 0, 0, 0, 0), r1')
 else L88_1 n n.1 b0.2 (b0.2.length : Int) 0 0 0 0 0 0 0 0 0 b0.1 0 0 0 0 0 0 0) := by kernel_rfl
theorem S88_run (n : Nat × Nat) (xs : pksDen pk88) : S88 n xs.1 = runG (E88 n) noScope c88 an88 (rtG rk88) (fun _ _ => none) (rtG rk88) (st0 pk88 xs Tryz.f88.ntmps) := by kernel_rfl
noncomputable def P88 (n : Nat × Nat) := phiOf pk88 rk88 (fun xs => S88 n xs.1)
theorem call88 : CallOK Tryz.prog 88 := callOK_of Tryz.func88 (by kernel_rfl) (by kernel_rfl)
theorem env88 (n : Nat × Nat) : EnvOK Tryz.prog (E88 n) := envOK0 (consPhi_ok (FC97 n) call97 noPhi_ok) rfl rfl
theorem par88 (n : Nat × Nat) : EnvPar (E88 n) := envPar0 (consPhi_par phiOf_Par1 noPhi_par) rfl
theorem FC88 (n : Nat × Nat) : FCs Tryz.prog 88 (P88 n) := phiOf_FCs fun xs r h vs hv => FC.of_runG tabOK eqsOK (env88 n) (par88 n) mixed (fun _ p _ => noScope_ok p.1 p.2) Tryz.func88 (c := c88) (an := an88) (pks := pk88) (rks := rk88) (by kernel_rfl) (by kernel_rfl) hv ((S88_run n xs).symm.trans h)
/- (headword/see.web).judged -/
abbrev R89 := Int
noncomputable def c89 : Code := bodyOf Tryz.f89
noncomputable def an89 : Ann := (.s .l (.s .l (.s (.s .l (.j [5] (.j [1, 5, 12, 13, 14, 27, 28, 29, 30, 36, 37, 38, 39] (.s .l (.s (.j [1, 5, 12, 13, 14, 27, 28, 29, 30, 36, 37, 38, 39] .l .l) (.j [] (.j [1, 5, 12, 13, 14, 27, 28, 29, 30, 36, 37, 38, 39] (.s .l (.s .l (.j [1, 5, 12, 13, 14, 27, 28, 29, 30, 36, 37, 38, 39] (.s .l (.j [1, 5, 12, 13, 14, 27, 28, 29, 30, 36, 37, 38, 39] .l (.s .l (.j [1, 5, 12, 13, 14, 27, 28, 29, 30, 36, 37, 38, 39] .l .l)))) .l))) .l) .l))) .l) .l)) (.s (.s .l (.j [] .l .l)) .l))))
def pk89 : List PK := [.c (.pair (.int .i64) (.pair (.int .u64) (.pair (.int .u64) (.pair (.int .u64) (.pair (.int .u64) (.pair (.int .u64) (.pair (.int .u64) (.int .u64)))))))), .c (.int .u64)]
def rk89 : List RK := [.c (.int .i64) 4]
noncomputable def rt89 (st : St) : Option R89 := rtG rk89 st
noncomputable def E89 (n : Nat × Nat) : Env := { T := tab, phi := noPhi, eff := fun _ => false, fuel := n.1, hold := n.2 }
noncomputable def kq89_1 (n : Nat × Nat) : St → Option R89 := run (E89 n) (cB (cB (cB c89))) (Ann.snd (Ann.snd (Ann.snd an89))) rt89 (fun _ _ => none) rt89
noncomputable def xb89_3 (n : Nat × Nat) : Nat → St → Option R89 := fun j s => bif Nat.beq j 0 then normC [5] s (kq89_1 n) else (fun _ _ => none) j s
noncomputable def F89_4 (n : Nat × Nat) : (St → Option R89) → St → Option R89 := fun K s => run (E89 n) (cA (cA (cB (cA (cB (cB c89)))))) (Ann.fst (Ann.fst (Ann.snd (Ann.fst (Ann.snd (Ann.snd an89)))))) (fun s => normC [1, 5, 12, 13, 14, 27, 28, 29, 30, 36, 37, 38, 39] s K) (xb89_3 n) rt89 s
noncomputable def kq89_7 (n : Nat × Nat) (m1 : Nat) : St → Option R89 := run (E89 n) (cB (cB (cB (cA (cA (cB (cA (cB (cB c89))))))))) (Ann.snd (Ann.snd (Ann.snd (Ann.fst (Ann.fst (Ann.snd (Ann.fst (Ann.snd (Ann.snd an89))))))))) (fun s => normC [1, 5, 12, 13, 14, 27, 28, 29, 30, 36, 37, 38, 39] s (loopN (F89_4 n) m1)) (xb89_3 n) rt89
noncomputable def L89_1 (n : Nat × Nat) (m : Nat) (choice1 : Int) (v5 : Bool) (v12 : List Int) (v13 : Int) (v14 : Int) : Option R89 := loopN (F89_4 n) m { tm := [uu, .c (.int .u64 choice1), uu, uu, uu, .c (.bool v5), uu, uu, uu, uu, uu, uu, .c (.sl (.int .u64) v12 false), .c (.int .i64 v13), .c (.int .i64 v14), uu, uu, uu, uu, uu, uu, uu, uu, uu, uu, uu, uu, uu, uu, uu, uu, uu, uu, uu, uu, uu, uu, uu, uu, uu, uu, uu, uu], hp := emp }
noncomputable def L89_2 (n : Nat × Nat) (m1 : Nat) (choice1 : Int) (v5 : Bool) (v12 : List Int) (v13 : Int) (v14 : Int) : Option R89 := loopN (fun _ => (kq89_7 n m1)) n.2 { tm := [uu, .c (.int .u64 choice1), uu, uu, uu, .c (.bool v5), uu, uu, uu, uu, uu, uu, .c (.sl (.int .u64) v12 false), .c (.int .i64 v13), .c (.int .i64 v14), uu, uu, uu, uu, uu, uu, uu, uu, uu, uu, uu, uu, uu, uu, uu, uu, uu, uu, uu, uu, uu, uu, uu, uu, uu, uu, uu, uu], hp := emp }
theorem L89_1_eq (n : Nat × Nat) (m1 : Nat) (choice1 : Int) (v5 : Bool) (v12 : List Int) (v13 : Int) (v14 : Int) : L89_1 n (m1 + 1) choice1 v5 v12 v13 v14 =
 (bif decide (v14 < v13) then (idx v12 v14).bind fun x1' =>
 (bif decide (v14 < 0) then none
 else ((bif (((wr .u64 (BitVec.ofInt (IntKind.bits .u64) (Int.fdiv choice1 (2 ^ (min (Int.toNat v14) (IntKind.bits .u64)))) &&& BitVec.ofInt (IntKind.bits .u64) 1).toNat) == 1) == true) then some ((wr .u64 (BitVec.ofInt (IntKind.bits .u64) x1' &&& BitVec.ofInt (IntKind.bits .u64) choice1).toNat) != 0)
 else some false)).bind fun b2' =>
 (bif b2' then some 13
 else ((bif ((!((wr .u64 (BitVec.ofInt (IntKind.bits .u64) (Int.fdiv choice1 (2 ^ (min (Int.toNat v14) (IntKind.bits .u64)))) &&& BitVec.ofInt (IntKind.bits .u64) 1).toNat) == 1)) == true) then some ((wr .u64 (BitVec.ofInt (IntKind.bits .u64) x1' &&& BitVec.ofInt (IntKind.bits .u64) choice1).toNat) == 0)
 else some false)).bind fun b3' =>
 (bif b3' then L89_2 n m1 choice1 true v12 v13 v14
 else L89_2 n m1 choice1 v5 v12 v13 v14)))
 else (bif v5 then some 21
 else some 0)) := by kernel_rfl
theorem L89_2_raw (n : Nat × Nat) (m1 : Nat) (choice1 : Int) (v5 : Bool) (v12 : List Int) (v13 : Int) (v14 : Int) : (kq89_7 n m1) { tm := [uu, .c (.int .u64 choice1), uu, uu, uu, .c (.bool v5), uu, uu, uu, uu, uu, uu, .c (.sl (.int .u64) v12 false), .c (.int .i64 v13), .c (.int .i64 v14), uu, uu, uu, uu, uu, uu, uu, uu, uu, uu, uu, uu, uu, uu, uu, uu, uu, uu, uu, uu, uu, uu, uu, uu, uu, uu, uu, uu], hp := emp } =
    L89_1 n m1 choice1 v5 v12 v13 (wr .i64 (v14 + 1)) := by kernel_rfl
noncomputable def S89 (n : Nat × Nat) (w0 : Int × Int × Int × Int × Int × Int × Int × Int) (choice1 : Int) : Option R89 := run (E89 n) c89 an89 rt89 (fun _ _ => none) rt89 { tm := [.agg [.int .i64 w0.1, .int .u64 w0.2.1, .int .u64 w0.2.2.1, .int .u64 w0.2.2.2.1, .int .u64 w0.2.2.2.2.1, .int .u64 w0.2.2.2.2.2.1, .int .u64 w0.2.2.2.2.2.2.1, .int .u64 w0.2.2.2.2.2.2.2], .c (.int .u64 choice1), uu, uu, uu, uu, uu, uu, uu, uu, uu, uu, uu, uu, uu, uu, uu, uu, uu, uu, uu, uu, uu, uu, uu, uu, uu, uu, uu, uu, uu, uu, uu, uu, uu, uu, uu, uu, uu, uu, uu, uu, uu], hp := emp }
theorem S89_eq (n : Nat × Nat) (w0 : Int × Int × Int × Int × Int × Int × Int × Int) (choice1 : Int) : S89 n w0 choice1 =
 (bif bounds none (some w0.1) none 7 then L89_1 n n.1 choice1 false ([w0.2.1, w0.2.2.1, w0.2.2.2.1, w0.2.2.2.2.1, w0.2.2.2.2.2.1, w0.2.2.2.2.2.2.1, w0.2.2.2.2.2.2.2].take (Int.toNat w0.1)) (([w0.2.1, w0.2.2.1, w0.2.2.2.1, w0.2.2.2.2.1, w0.2.2.2.2.2.1, w0.2.2.2.2.2.2.1, w0.2.2.2.2.2.2.2].take (Int.toNat w0.1)).length : Int) 0
 else none) := by kernel_rfl
theorem S89_run (n : Nat × Nat) (xs : pksDen pk89) : S89 n xs.1 xs.2.1 = runG (E89 n) noScope c89 an89 (rtG rk89) (fun _ _ => none) (rtG rk89) (st0 pk89 xs Tryz.f89.ntmps) := by kernel_rfl
noncomputable def P89 (n : Nat × Nat) := phiOf pk89 rk89 (fun xs => S89 n xs.1 xs.2.1)
theorem call89 : CallOK Tryz.prog 89 := callOK_of Tryz.func89 (by kernel_rfl) (by kernel_rfl)
theorem env89 (n : Nat × Nat) : EnvOK Tryz.prog (E89 n) := envOK0 noPhi_ok rfl rfl
theorem par89 (n : Nat × Nat) : EnvPar (E89 n) := envPar0 noPhi_par rfl
theorem FC89 (n : Nat × Nat) : FCs Tryz.prog 89 (P89 n) := phiOf_FCs fun xs r h vs hv => FC.of_runG tabOK eqsOK (env89 n) (par89 n) mixed (fun _ p _ => noScope_ok p.1 p.2) Tryz.func89 (c := c89) (an := an89) (pks := pk89) (rks := rk89) (by kernel_rfl) (by kernel_rfl) hv ((S89_run n xs).symm.trans h)
abbrev R90 := List Int
noncomputable def c90 : Code := bodyOf Tryz.f90
noncomputable def an90 : Ann := (.s .l (.s .l (.s (.j [3] (.j [0, 3] (.s (.s .l (.j [0, 3] .l .l)) (.s (.j [0, 3] .l .l) .l)) .l) .l) .l)))
def pk90 : List PK := [.c (.int .u64)]
def rk90 : List RK := [.own (.int .i64) 2]
noncomputable def rt90 (st : St) : Option R90 := rtG rk90 st
noncomputable def E90 (n : Nat × Nat) : Env := { T := tab, phi := (consPhi 73 (fun _ => true) (P73 n) noPhi), eff := fun _ => false, fuel := n.1, hold := n.2 }
noncomputable def kq90_1 (n : Nat × Nat) : St → Option R90 := run (E90 n) (cB (cB (cB c90))) (Ann.snd (Ann.snd (Ann.snd an90))) rt90 (fun _ _ => none) rt90
noncomputable def xb90_3 (n : Nat × Nat) : Nat → St → Option R90 := fun j s => bif Nat.beq j 0 then normC [3] s (kq90_1 n) else (fun _ _ => none) j s
noncomputable def F90_4 (n : Nat × Nat) : (St → Option R90) → St → Option R90 := fun K s => run (E90 n) (cA (cA (cA (cB (cB c90))))) (Ann.fst (Ann.fst (Ann.fst (Ann.snd (Ann.snd an90))))) (fun s => normC [0, 3] s K) (xb90_3 n) rt90 s
noncomputable def L90_1 (n : Nat × Nat) (m : Nat) (v0 : Int) (out3 : List Int) : Option R90 := loopN (F90_4 n) m { tm := [.c (.int .u64 v0), uu, uu, .own 3 none false, uu, uu, uu, uu, uu, uu, uu, uu, uu, uu, uu, uu], hp := (upd emp 3 (.arr (.int .i64) out3 false)) }
theorem L90_1_eq (n : Nat × Nat) (m1 : Nat) (v0 : Int) (out3 : List Int) : L90_1 n (m1 + 1) v0 out3 =
 (bif (v0 != 0) then (S73 n v0).bind fun r1' =>
 (bif decide (out3.length + [r1'].length ≤ lim) then L90_1 n m1 (wr .u64 (BitVec.ofInt (IntKind.bits .u64) v0 &&& BitVec.ofInt (IntKind.bits .u64) (wr .u64 (v0 - 1))).toNat) (out3 ++ [r1'])
 else none)
 else some out3) := by kernel_rfl
noncomputable def S90 (n : Nat × Nat) (v0 : Int) : Option R90 := run (E90 n) c90 an90 rt90 (fun _ _ => none) rt90 { tm := [.c (.int .u64 v0), uu, uu, uu, uu, uu, uu, uu, uu, uu, uu, uu, uu, uu, uu, uu], hp := emp }
theorem S90_eq (n : Nat × Nat) (v0 : Int) : S90 n v0 =
    L90_1 n n.1 v0 [] := by kernel_rfl
theorem S90_run (n : Nat × Nat) (xs : pksDen pk90) : S90 n xs.1 = runG (E90 n) noScope c90 an90 (rtG rk90) (fun _ _ => none) (rtG rk90) (st0 pk90 xs Tryz.f90.ntmps) := by kernel_rfl
noncomputable def P90 (n : Nat × Nat) := phiOf pk90 rk90 (fun xs => S90 n xs.1)
theorem call90 : CallOK Tryz.prog 90 := callOK_of Tryz.func90 (by kernel_rfl) (by kernel_rfl)
theorem env90 (n : Nat × Nat) : EnvOK Tryz.prog (E90 n) := envOK0 (consPhi_ok (FC73 n) call73 noPhi_ok) rfl rfl
theorem par90 (n : Nat × Nat) : EnvPar (E90 n) := envPar0 (consPhi_par phiOf_Par1 noPhi_par) rfl
theorem FC90 (n : Nat × Nat) : FCs Tryz.prog 90 (P90 n) := phiOf_FCs fun xs r h vs hv => FC.of_runG tabOK eqsOK (env90 n) (par90 n) mixed (fun _ p _ => noScope_ok p.1 p.2) Tryz.func90 (c := c90) (an := an90) (pks := pk90) (rks := rk90) (by kernel_rfl) (by kernel_rfl) hv ((S90_run n xs).symm.trans h)
end Go.Proofs.YtkfkbebinhkdlaaGreatDoor
/-
  slices.SortFunc at a list of at most one element: it stays as it is.
-/
set_option linter.unusedVariables false
set_option linter.unusedSimpArgs false
set_option maxRecDepth 100000
namespace Go.Proofs.YtkfkbebinhkdlaaGreatDoor
open Go.RowKit
theorem ins_in (a : Option Addr) (L cap : Nat) (w : World) (f : Value) (hL : L ≤ 1) :
    Calls Tryz.prog 101 #[.slice a L cap, .int .i64 0, .int .i64 L, f] w fun e W' => e = .returned (.tuple #[]) ∧ w = W' := by
  go_enter Tryz.func101, Tryz.ntmps101
  go_wp2
  refine wp_loop_rounds 1 ?_
  rw [rounds_succ]
  go_wp2
  go_end0
  exact ⟨rfl, rfl⟩
theorem pdq_in (a : Option Addr) (L cap : Nat) (w : World) (f : Value) (k : Int) (hL : L ≤ 1) :
    Calls Tryz.prog 98 #[.slice a L cap, .int .i64 0, .int .i64 L, .int .i64 k, f] w fun e W' => e = .returned (.tuple #[]) ∧ w = W' := by
  go_enter Tryz.func98, Tryz.ntmps98
  go_wp2
  refine wp_loop_rounds 1 ?_
  rw [rounds_succ]
  go_wp2_with (go_at_call 101; refine (ins_in a L cap _ f hL).mono ?_; rintro e w1 ⟨rfl, rfl⟩)
  exact bodyPost_ret (results_none rfl _ _ _) rfl ⟨rfl, rfl⟩
theorem len0_in (w : World) : Calls Tryz.prog 99 #[.int .u64 0] w fun e W' => ∃ k : Int, e = .returned (.int .i64 k) ∧ w = W' := by
  have h : Calls Tryz.prog 110 #[.int .u64 0] w fun e W' => ∃ k : Int, e = .returned (.int .i64 k) ∧ w = W' := by
    go_enter Tryz.func110, Tryz.ntmps110
    go_wp2
    go_ret
    exact ⟨_, rfl, rfl⟩
  go_enter Tryz.func99, Tryz.ntmps99
  go_wp2_with (go_at_call 110; refine h.mono ?_; rintro e w1 ⟨k, rfl, rfl⟩)
  go_ret
  exact ⟨_, rfl, rfl⟩
theorem len1_in (w : World) : Calls Tryz.prog 99 #[.int .u64 1] w fun e W' => ∃ k : Int, e = .returned (.int .i64 k) ∧ w = W' := by
  have h : Calls Tryz.prog 110 #[.int .u64 1] w fun e W' => ∃ k : Int, e = .returned (.int .i64 k) ∧ w = W' := by
    go_enter Tryz.func110, Tryz.ntmps110
    go_wp2
    go_ret
    exact ⟨_, rfl, rfl⟩
  go_enter Tryz.func99, Tryz.ntmps99
  go_wp2_with (go_at_call 110; refine h.mono ?_; rintro e w1 ⟨k, rfl, rfl⟩)
  go_ret
  exact ⟨_, rfl, rfl⟩
theorem sort_in (a : Option Addr) (L cap : Nat) (w : World) (f : Value) (hL : L ≤ 1) :
    Calls Tryz.prog 91 #[.slice a L cap, f] w fun e W' => e = .returned (.tuple #[]) ∧ w = W' := by
  have key : L = 0 ∨ L = 1 := by omega
  rcases key with rfl | rfl
  · have hp := fun k => pdq_in a 0 cap w f k (by omega)
    go_enter Tryz.func91, Tryz.ntmps91
    go_wp2_with (first | (go_at_call 99; refine (len0_in _).mono ?_; rintro e w1 ⟨k, rfl, rfl⟩) | (go_at_call 98; refine (hp _).mono ?_; rintro e w1 ⟨rfl, rfl⟩))
    go_end0
    exact ⟨rfl, rfl⟩
  · have hp := fun k => pdq_in a 1 cap w f k (by omega)
    go_enter Tryz.func91, Tryz.ntmps91
    go_wp2_with (first | (go_at_call 99; refine (len1_in _).mono ?_; rintro e w1 ⟨k, rfl, rfl⟩) | (go_at_call 98; refine (hp _).mono ?_; rintro e w1 ⟨rfl, rfl⟩))
    go_end0
    exact ⟨rfl, rfl⟩
open Go.Vi
def HF91 (l : List (List Int)) : Option Unit := bif Nat.ble l.length 1 then some () else none
theorem HC91 (xs : pksDen [.c (.sl (.sl (.int .i64))), .f 47 []]) (r : rksDen []) (h : HF91 xs.1 = some r) (vs : List V) (hv : pksArg [.c (.sl (.sl (.int .i64))), .f 47 []] vs = some xs) :
    FC Tryz.prog 91 vs (rets [] r) := by
  obtain ⟨l, y, ⟨⟩⟩ := xs
  unfold HF91 at h
  obtain ⟨hl, h⟩ := cond_some h rfl
  have hl : l.length ≤ 1 := Nat.le_of_ble_eq_true hl
  intro w A0 args hA hargs hgl
  have hv2 := pksArg_VR _ _ _ _ hv hargs
  match args, hv2 with
  | [u1, u2], ⟨g0, _, _⟩ =>
    have g0 : CR w A0 (.sl (.sl (.int .i64)) l false) u1 := g0
    obtain ⟨a, cap, rfl, _⟩ := g0
    refine (sort_in a l.length cap w u2 hl).mono ?_
    rintro e W' ⟨rfl, rfl⟩
    exact ⟨⟨Nat.le_refl _, rfl, rfl, rfl, fun _ _ => rfl⟩, [], [], rfl, trivial⟩
end Go.Proofs.YtkfkbebinhkdlaaGreatDoor
set_option linter.unusedVariables false
set_option linter.unusedSimpArgs false
set_option maxRecDepth 100000
namespace Go.Proofs.YtkfkbebinhkdlaaGreatDoor
open Go.Vi
abbrev R91c47 := Unit
def pk91c47 : List PK := [.c (.sl (.sl (.int .i64))), .f 47 []]
def rk91c47 : List RK := []
noncomputable def S91c47 (n : Nat × Nat) (x0 : List (List Int)) : Option R91c47 := HF91 x0
noncomputable def P91c47 (n : Nat × Nat) := phiOf pk91c47 rk91c47 (fun xs => S91c47 n xs.1)
theorem call91 : CallOK Tryz.prog 91 := callOK_of Tryz.func91 (by kernel_rfl) (by kernel_rfl)
theorem FC91c47 (n : Nat × Nat) : FCs Tryz.prog 91 (P91c47 n) := phiOf_FCs fun xs r h vs hv => HC91 xs r h vs hv
abbrev R77 := List (List Int) × Int
noncomputable def c77 : Code := bodyOf Tryz.f77
noncomputable def an77 : Ann := (.s .l (.s .l (.s (.s .l (.j [4] .l .l)) (.s .l (.s (.s .l (.j [6] (.j [4, 6, 18, 19] (.s .l (.s (.j [4, 6, 18, 19] .l .l) (.j [] (.j [4, 6, 18, 19] (.s .l (.s .l (.j [4, 6, 18, 19] .l .l))) .l) .l))) .l) .l)) .l)))))
def pk77 : List PK := [.c (.pair (.int .i64) (.sl (.pair (.int .i64) (.int .i64))))]
def rk77 : List RK := [.own (.sl (.int .i64)) 2, .c (.int .i64) 3]
noncomputable def rt77 (st : St) : Option R77 := rtG rk77 st
noncomputable def E77 (n : Nat × Nat) : Env := { T := tab, phi := (consPhi 88 (fun _ => true) (P88 n) (consPhi 89 (fun _ => true) (P89 n) (consPhi 90 (fun _ => true) (P90 n) (consPhi 91 (isFns [none, some 47]) (P91c47 n) noPhi)))), eff := fun _ => false, fuel := n.1, hold := n.2 }
noncomputable def kq77_3 (n : Nat × Nat) : St → Option R77 := run (E77 n) (cB (cB (cB (cB (cB c77))))) (Ann.snd (Ann.snd (Ann.snd (Ann.snd (Ann.snd an77))))) rt77 (fun _ _ => none) rt77
noncomputable def xb77_5 (n : Nat × Nat) : Nat → St → Option R77 := fun j s => bif Nat.beq j 0 then normC [6] s (kq77_3 n) else (fun _ _ => none) j s
noncomputable def F77_6 (n : Nat × Nat) : (St → Option R77) → St → Option R77 := fun K s => run (E77 n) (cA (cA (cB (cA (cB (cB (cB (cB c77)))))))) (Ann.fst (Ann.fst (Ann.snd (Ann.fst (Ann.snd (Ann.snd (Ann.snd (Ann.snd an77)))))))) (fun s => normC [4, 6, 18, 19] s K) (xb77_5 n) rt77 s
noncomputable def kq77_9 (n : Nat × Nat) (m1 : Nat) : St → Option R77 := run (E77 n) (cB (cB (cB (cA (cA (cB (cA (cB (cB (cB (cB c77))))))))))) (Ann.snd (Ann.snd (Ann.snd (Ann.fst (Ann.fst (Ann.snd (Ann.fst (Ann.snd (Ann.snd (Ann.snd (Ann.snd an77))))))))))) (fun s => normC [4, 6, 18, 19] s (loopN (F77_6 n) m1)) (xb77_5 n) rt77
noncomputable def L77_1 (n : Nat × Nat) (m : Nat) (v18 : Int) (v19 : Int) (w4_0 : Int) (w4_1 : Int) (w4_2 : Int) (w4_3 : Int) (w4_4 : Int) (w4_5 : Int) (w4_6 : Int) (w4_7 : Int) (out6 : List (List Int)) : Option R77 := loopN (F77_6 n) m { tm := [uu, uu, uu, uu, .ptr 4 0, uu, .own 6 none false, uu, uu, uu, uu, uu, uu, uu, uu, uu, uu, uu, .c (.int .u64 v18), .c (.int .u64 v19), uu, uu, uu, uu, uu, uu, uu, uu, uu, uu, uu, uu, uu, uu, uu], hp := (upd (upd emp 6 (.arr (.sl (.int .i64)) out6 false)) 4 (.box [.int .i64 w4_0, .int .u64 w4_1, .int .u64 w4_2, .int .u64 w4_3, .int .u64 w4_4, .int .u64 w4_5, .int .u64 w4_6, .int .u64 w4_7])) }
noncomputable def L77_2 (n : Nat × Nat) (m1 : Nat) (v18 : Int) (v19 : Int) (w4_0 : Int) (w4_1 : Int) (w4_2 : Int) (w4_3 : Int) (w4_4 : Int) (w4_5 : Int) (w4_6 : Int) (w4_7 : Int) (out6 : List (List Int)) : Option R77 := loopN (fun _ => (kq77_9 n m1)) n.2 { tm := [uu, uu, uu, uu, .ptr 4 0, uu, .own 6 none false, uu, uu, uu, uu, uu, uu, uu, uu, uu, uu, uu, .c (.int .u64 v18), .c (.int .u64 v19), uu, uu, uu, uu, uu, uu, uu, uu, uu, uu, uu, uu, uu, uu, uu], hp := (upd (upd emp 6 (.arr (.sl (.int .i64)) out6 false)) 4 (.box [.int .i64 w4_0, .int .u64 w4_1, .int .u64 w4_2, .int .u64 w4_3, .int .u64 w4_4, .int .u64 w4_5, .int .u64 w4_6, .int .u64 w4_7])) }
theorem L77_1_eq (n : Nat × Nat) (m1 : Nat) (v18 : Int) (v19 : Int) (w4_0 : Int) (w4_1 : Int) (w4_2 : Int) (w4_3 : Int) (w4_4 : Int) (w4_5 : Int) (w4_6 : Int) (w4_7 : Int) (out6 : List (List Int)) : L77_1 n (m1 + 1) v18 v19 w4_0 w4_1 w4_2 w4_3 w4_4 w4_5 w4_6 w4_7 out6 =
 (bif decide (v19 < v18) then (S89 n (w4_0, w4_1, w4_2, w4_3, w4_4, w4_5, w4_6, w4_7) v19).bind fun r2' =>
 (bif (r2' == 0) then (S90 n v19).bind fun r3' =>
 (bif decide (out6.length + [r3'].length ≤ lim) then L77_2 n m1 v18 v19 w4_0 w4_1 w4_2 w4_3 w4_4 w4_5 w4_6 w4_7 (out6 ++ [r3'])
 else none)
 else L77_2 n m1 v18 v19 w4_0 w4_1 w4_2 w4_3 w4_4 w4_5 w4_6 w4_7 out6)
 else (S91c47 n out6).bind fun r4' =>
 some (out6, 0)) := by kernel_rfl
theorem L77_2_raw (n : Nat × Nat) (m1 : Nat) (v18 : Int) (v19 : Int) (w4_0 : Int) (w4_1 : Int) (w4_2 : Int) (w4_3 : Int) (w4_4 : Int) (w4_5 : Int) (w4_6 : Int) (w4_7 : Int) (out6 : List (List Int)) : (kq77_9 n m1) { tm := [uu, uu, uu, uu, .ptr 4 0, uu, .own 6 none false, uu, uu, uu, uu, uu, uu, uu, uu, uu, uu, uu, .c (.int .u64 v18), .c (.int .u64 v19), uu, uu, uu, uu, uu, uu, uu, uu, uu, uu, uu, uu, uu, uu, uu], hp := (upd (upd emp 6 (.arr (.sl (.int .i64)) out6 false)) 4 (.box [.int .i64 w4_0, .int .u64 w4_1, .int .u64 w4_2, .int .u64 w4_3, .int .u64 w4_4, .int .u64 w4_5, .int .u64 w4_6, .int .u64 w4_7])) } =
    L77_1 n m1 v18 (wr .u64 (v19 + 1)) w4_0 w4_1 w4_2 w4_3 w4_4 w4_5 w4_6 w4_7 out6 := by kernel_rfl
noncomputable def S77 (n : Nat × Nat) (b0 : Int × List (Int × Int)) : Option R77 := run (E77 n) c77 an77 rt77 (fun _ _ => none) rt77 { tm := [.agg [.int .i64 b0.1, .sl (.pair (.int .i64) (.int .i64)) b0.2 false], uu, uu, uu, uu, uu, uu, uu, uu, uu, uu, uu, uu, uu, uu, uu, uu, uu, uu, uu, uu, uu, uu, uu, uu, uu, uu, uu, uu, uu, uu, uu, uu, uu, uu], hp := emp }
theorem S77_eq (n : Nat × Nat) (b0 : Int × List (Int × Int)) : S77 n b0 =
 (S88 n b0).bind fun r1' =>
 (bif (r1'.2 != 0) then some ([], r1'.2)
 else (bif decide (r1'.1.1 < 0) then none
 else L77_1 n n.1 (wr .u64 (1 * 2 ^ (min (Int.toNat r1'.1.1) (IntKind.bits .u64)))) 0 r1'.1.1 r1'.1.2.1 r1'.1.2.2.1 r1'.1.2.2.2.1 r1'.1.2.2.2.2.1 r1'.1.2.2.2.2.2.1 r1'.1.2.2.2.2.2.2.1 r1'.1.2.2.2.2.2.2.2 [])) := by kernel_rfl
theorem S77_run (n : Nat × Nat) (xs : pksDen pk77) : S77 n xs.1 = runG (E77 n) noScope c77 an77 (rtG rk77) (fun _ _ => none) (rtG rk77) (st0 pk77 xs Tryz.f77.ntmps) := by kernel_rfl
noncomputable def P77 (n : Nat × Nat) := phiOf pk77 rk77 (fun xs => S77 n xs.1)
theorem call77 : CallOK Tryz.prog 77 := callOK_of Tryz.func77 (by kernel_rfl) (by kernel_rfl)
theorem env77 (n : Nat × Nat) : EnvOK Tryz.prog (E77 n) := envOK0 (consPhi_ok (FC88 n) call88 (consPhi_ok (FC89 n) call89 (consPhi_ok (FC90 n) call90 (consPhi_ok (FC91c47 n) call91 noPhi_ok)))) rfl rfl
theorem par77 (n : Nat × Nat) : EnvPar (E77 n) := envPar0 (consPhi_par phiOf_Par1 (consPhi_par phiOf_Par1 (consPhi_par phiOf_Par1 (consPhi_par phiOf_Par1 noPhi_par)))) rfl
theorem FC77 (n : Nat × Nat) : FCs Tryz.prog 77 (P77 n) := phiOf_FCs fun xs r h vs hv => FC.of_runG tabOK eqsOK (env77 n) (par77 n) mixed (fun _ p _ => noScope_ok p.1 p.2) Tryz.func77 (c := c77) (an := an77) (pks := pk77) (rks := rk77) (by kernel_rfl) (by kernel_rfl) hv ((S77_run n xs).symm.trans h)
abbrev R69 := List Int × Int
noncomputable def c69 : Code := bodyOf Tryz.f69
noncomputable def an69 : Ann := (.s .l (.s .l (.s (.j [4] (.s .l (.j [4] .l (.s .l (.j [4] .l .l)))) .l) .l)))
def pk69 : List PK := [.c (.pair (.int .i64) (.sl (.pair (.int .i64) (.int .i64))))]
def rk69 : List RK := [.sl (.int .i64) 2, .c (.int .i64) 3]
noncomputable def rt69 (st : St) : Option R69 := rtG rk69 st
noncomputable def E69 (n : Nat × Nat) : Env := { T := tab, phi := (consPhi 77 (fun _ => true) (P77 n) noPhi), eff := fun g => Nat.beq g 77, fuel := n.1, hold := n.2 }
noncomputable def S69 (n : Nat × Nat) (b0 : Int × List (Int × Int)) : Option R69 := run (E69 n) c69 an69 rt69 (fun _ _ => none) rt69 { tm := [.agg [.int .i64 b0.1, .sl (.pair (.int .i64) (.int .i64)) b0.2 false], uu, uu, uu, uu, uu, uu, uu, uu, uu, uu, uu, uu, uu, uu, uu, uu, uu, uu, uu, uu, uu], hp := emp }
theorem S69_eq (n : Nat × Nat) (b0 : Int × List (Int × Int)) : S69 n b0 =
 (S77 n b0).bind fun r1' =>
 (bif (r1'.2 != 0) then some ([], r1'.2)
 else (bif ((r1'.1.length : Int) == 0) then some ([], 12)
 else (bif inB 0 r1'.1.length then (idx r1'.1 0).bind fun x2' =>
 some (x2', 0)
 else none))) := by kernel_rfl
theorem S69_run (n : Nat × Nat) (xs : pksDen pk69) : S69 n xs.1 = runG (E69 n) noScope c69 an69 (rtG rk69) (fun _ _ => none) (rtG rk69) (st0 pk69 xs Tryz.f69.ntmps) := by kernel_rfl
noncomputable def P69 (n : Nat × Nat) := phiOf pk69 rk69 (fun xs => S69 n xs.1)
theorem call69 : CallOK Tryz.prog 69 := callOK_of Tryz.func69 (by kernel_rfl) (by kernel_rfl)
theorem env69 (n : Nat × Nat) : EnvOK Tryz.prog (E69 n) := envOK0 (consPhi_ok (FC77 n) call77 noPhi_ok) rfl rfl
theorem par69 (n : Nat × Nat) : EnvPar (E69 n) := envPar0 (consPhi_par phiOf_Par1 noPhi_par) rfl
theorem FC69 (n : Nat × Nat) : FCs Tryz.prog 69 (P69 n) := phiOf_FCs fun xs r h vs hv => FC.of_runG tabOK eqsOK (env69 n) (par69 n) mixed (fun _ p _ => noScope_ok p.1 p.2) Tryz.func69 (c := c69) (an := an69) (pks := pk69) (rks := rk69) (by kernel_rfl) (by kernel_rfl) hv ((S69_run n xs).symm.trans h)
abbrev R100 := Int
noncomputable def c100 : Code := bodyOf Tryz.f100
noncomputable def an100 : Ann := (.s .l (.s (.s .l (.j [0, 16, 17] .l .l)) (.s (.s .l (.j [] (.j [9, 16, 17] (.s .l (.s (.j [9, 10, 16, 17] .l .l) (.j [9, 16, 17] (.s .l (.s .l (.j [9, 16, 17] .l .l))) .l))) .l) .l)) .l)))
def pk100 : List PK := [.c .str]
def rk100 : List RK := [.c (.int .i64) 2]
noncomputable def rt100 (st : St) : Option R100 := rtG rk100 st
noncomputable def E100 (n : Nat × Nat) : Env := { T := tab, phi := noPhi, eff := fun _ => false, fuel := n.1, hold := n.2 }
noncomputable def kq100_3 (n : Nat × Nat) : St → Option R100 := run (E100 n) (cB (cB (cB c100))) (Ann.snd (Ann.snd (Ann.snd an100))) rt100 (fun _ _ => none) rt100
noncomputable def xb100_5 (n : Nat × Nat) : Nat → St → Option R100 := fun j s => bif Nat.beq j 0 then normC [] s (kq100_3 n) else (fun _ _ => none) j s
noncomputable def F100_6 (n : Nat × Nat) : (St → Option R100) → St → Option R100 := fun K s => run (E100 n) (cA (cA (cB (cA (cB (cB c100)))))) (Ann.fst (Ann.fst (Ann.snd (Ann.fst (Ann.snd (Ann.snd an100)))))) (fun s => normC [9, 16, 17] s K) (xb100_5 n) rt100 s
noncomputable def L100_1 (n : Nat × Nat) (m : Nat) (v9s : ByteArray) (v9p : Nat) : Option R100 := loopN (F100_6 n) m { tm := [uu, uu, uu, uu, uu, uu, uu, uu, uu, .ptr 9 0, uu, uu, uu, uu, uu, uu, uu, uu, uu], hp := (upd emp 9 (.iter v9s v9p)) }
theorem L100_1_eq (n : Nat × Nat) (m1 : Nat) (v9s : ByteArray) (v9p : Nat) : L100_1 n (m1 + 1) v9s v9p =
 (bif Nat.blt v9p v9s.size then ((strBytes v9s)[v9p]?).bind fun x1' =>
 (bif decide (x1' < 128) then ((bif (decide (x1' < 97) == false) then some (decide (x1' ≥ 103))
 else some true)).bind fun b2' =>
 (bif b2' then some 10
 else L100_1 n m1 v9s (v9p + 1))
 else none)
 else some 0) := by kernel_rfl
noncomputable def S100 (n : Nat × Nat) (word0 : ByteArray) : Option R100 := run (E100 n) c100 an100 rt100 (fun _ _ => none) rt100 { tm := [.c (.str word0), uu, uu, uu, uu, uu, uu, uu, uu, uu, uu, uu, uu, uu, uu, uu, uu, uu, uu], hp := emp }
theorem S100_eq (n : Nat × Nat) (word0 : ByteArray) : S100 n word0 =
 (bif decide ((word0.size : Int) > 10) then some 19
 else L100_1 n n.1 word0 0) := by kernel_rfl
theorem S100_run (n : Nat × Nat) (xs : pksDen pk100) : S100 n xs.1 = runG (E100 n) noScope c100 an100 (rtG rk100) (fun _ _ => none) (rtG rk100) (st0 pk100 xs Tryz.f100.ntmps) := by kernel_rfl
noncomputable def P100 (n : Nat × Nat) := phiOf pk100 rk100 (fun xs => S100 n xs.1)
theorem call100 : CallOK Tryz.prog 100 := callOK_of Tryz.func100 (by kernel_rfl) (by kernel_rfl)
theorem env100 (n : Nat × Nat) : EnvOK Tryz.prog (E100 n) := envOK0 noPhi_ok rfl rfl
theorem par100 (n : Nat × Nat) : EnvPar (E100 n) := envPar0 noPhi_par rfl
theorem FC100 (n : Nat × Nat) : FCs Tryz.prog 100 (P100 n) := phiOf_FCs fun xs r h vs hv => FC.of_runG tabOK eqsOK (env100 n) (par100 n) mixed (fun _ p _ => noScope_ok p.1 p.2) Tryz.func100 (c := c100) (an := an100) (pks := pk100) (rks := rk100) (by kernel_rfl) (by kernel_rfl) hv ((S100_run n xs).symm.trans h)
abbrev R92 := Int
noncomputable def c92 : Code := bodyOf Tryz.f92
noncomputable def an92 : Ann := (.s .l (.s (.s .l (.j [] (.j [6, 7, 8] (.s .l (.s (.j [6, 7, 8] .l .l) (.s (.j [6, 7, 8] (.s .l (.s .l (.s .l (.j [6, 7, 8] .l .l)))) .l) .l))) .l) .l)) .l))
def pk92 : List PK := [.c (.sl .str)]
def rk92 : List RK := [.c (.int .i64) 2]
noncomputable def rt92 (st : St) : Option R92 := rtG rk92 st
noncomputable def E92 (n : Nat × Nat) : Env := { T := tab, phi := (consPhi 100 (fun _ => true) (P100 n) noPhi), eff := fun _ => false, fuel := n.1, hold := n.2 }
noncomputable def kq92_1 (n : Nat × Nat) : St → Option R92 := run (E92 n) (cB (cB c92)) (Ann.snd (Ann.snd an92)) rt92 (fun _ _ => none) rt92
noncomputable def xb92_3 (n : Nat × Nat) : Nat → St → Option R92 := fun j s => bif Nat.beq j 0 then normC [] s (kq92_1 n) else (fun _ _ => none) j s
noncomputable def F92_4 (n : Nat × Nat) : (St → Option R92) → St → Option R92 := fun K s => run (E92 n) (cA (cA (cB (cA (cB c92))))) (Ann.fst (Ann.fst (Ann.snd (Ann.fst (Ann.snd an92))))) (fun s => normC [6, 7, 8] s K) (xb92_3 n) rt92 s
noncomputable def L92_1 (n : Nat × Nat) (m : Nat) (v6 : List ByteArray) (v7 : Int) (v8 : Int) : Option R92 := loopN (F92_4 n) m { tm := [uu, uu, uu, uu, uu, uu, .c (.sl .str v6 false), .c (.int .i64 v7), .c (.int .i64 v8), uu, uu, uu, uu, uu, uu, uu, uu, uu], hp := emp }
theorem L92_1_eq (n : Nat × Nat) (m1 : Nat) (v6 : List ByteArray) (v7 : Int) (v8 : Int) : L92_1 n (m1 + 1) v6 v7 v8 =
 (bif decide (v8 < v7) then (idx v6 v8).bind fun x1' =>
 (S100 n x1').bind fun r2' =>
 (bif (r2' != 0) then some r2'
 else L92_1 n m1 v6 v7 (wr .i64 (v8 + 1)))
 else some 0) := by kernel_rfl
noncomputable def S92 (n : Nat × Nat) (words0 : List ByteArray) : Option R92 := run (E92 n) c92 an92 rt92 (fun _ _ => none) rt92 { tm := [.c (.sl .str words0 false), uu, uu, uu, uu, uu, uu, uu, uu, uu, uu, uu, uu, uu, uu, uu, uu, uu], hp := emp }
theorem S92_eq (n : Nat × Nat) (words0 : List ByteArray) : S92 n words0 =
    L92_1 n n.1 words0 (words0.length : Int) 0 := by kernel_rfl
theorem S92_run (n : Nat × Nat) (xs : pksDen pk92) : S92 n xs.1 = runG (E92 n) noScope c92 an92 (rtG rk92) (fun _ _ => none) (rtG rk92) (st0 pk92 xs Tryz.f92.ntmps) := by kernel_rfl
noncomputable def P92 (n : Nat × Nat) := phiOf pk92 rk92 (fun xs => S92 n xs.1)
theorem call92 : CallOK Tryz.prog 92 := callOK_of Tryz.func92 (by kernel_rfl) (by kernel_rfl)
theorem env92 (n : Nat × Nat) : EnvOK Tryz.prog (E92 n) := envOK0 (consPhi_ok (FC100 n) call100 noPhi_ok) rfl rfl
theorem par92 (n : Nat × Nat) : EnvPar (E92 n) := envPar0 (consPhi_par phiOf_Par1 noPhi_par) rfl
theorem FC92 (n : Nat × Nat) : FCs Tryz.prog 92 (P92 n) := phiOf_FCs fun xs r h vs hv => FC.of_runG tabOK eqsOK (env92 n) (par92 n) mixed (fun _ p _ => noScope_ok p.1 p.2) Tryz.func92 (c := c92) (an := an92) (pks := pk92) (rks := rk92) (by kernel_rfl) (by kernel_rfl) hv ((S92_run n xs).symm.trans h)
abbrev R78 := Int × Int
noncomputable def c78 : Code := bodyOf Tryz.f78
noncomputable def an78 : Ann := (.s .l (.s (.s .l (.s .l (.j [0, 1] .l .l))) (.s .l (.s .l (.s (.s .l (.j [1, 7] (.j [1, 7, 25, 26, 27] (.s .l (.s (.j [1, 7, 25, 26, 27] .l .l) (.s (.j [1, 7, 25, 26, 27] (.s .l (.s .l (.j [1, 7, 25, 26, 27] (.j [1, 7, 9, 10, 25, 26, 27] (.s (.s .l (.j [1, 7, 9, 10, 25, 26, 27] .l .l)) (.j [] (.j [1, 7, 9, 10, 25, 26, 27] (.s .l (.j [1, 7, 9, 10, 25, 26, 27] .l .l)) .l) .l)) .l) .l))) .l) .l))) .l) .l)) .l)))))
def pk78 : List PK := [.c .str, .c .str]
def rk78 : List RK := [.c (.int .i64) 4, .c (.int .i64) 5]
noncomputable def rt78 (st : St) : Option R78 := rtG rk78 st
noncomputable def E78 (n : Nat × Nat) : Env := { T := tab, phi := (consPhi 92 (fun _ => true) (P92 n) noPhi), eff := fun _ => false, fuel := n.1, hold := n.2 }
noncomputable def kq78_3 (n : Nat × Nat) : St → Option R78 := run (E78 n) (cB (cB (cB (cB (cB c78))))) (Ann.snd (Ann.snd (Ann.snd (Ann.snd (Ann.snd an78))))) rt78 (fun _ _ => none) rt78
noncomputable def xb78_5 (n : Nat × Nat) : Nat → St → Option R78 := fun j s => bif Nat.beq j 0 then normC [1, 7] s (kq78_3 n) else (fun _ _ => none) j s
noncomputable def F78_6 (n : Nat × Nat) : (St → Option R78) → St → Option R78 := fun K s => run (E78 n) (cA (cA (cB (cA (cB (cB (cB (cB c78)))))))) (Ann.fst (Ann.fst (Ann.snd (Ann.fst (Ann.snd (Ann.snd (Ann.snd (Ann.snd an78)))))))) (fun s => normC [1, 7, 25, 26, 27] s K) (xb78_5 n) rt78 s
noncomputable def kq78_9 (n : Nat × Nat) (m1 : Nat) : St → Option R78 := run (E78 n) (cB (cB (cB (cA (cA (cB (cA (cB (cB (cB (cB c78))))))))))) (Ann.snd (Ann.snd (Ann.snd (Ann.fst (Ann.fst (Ann.snd (Ann.fst (Ann.snd (Ann.snd (Ann.snd (Ann.snd an78))))))))))) (fun s => normC [1, 7, 25, 26, 27] s (loopN (F78_6 n) m1)) (xb78_5 n) rt78
noncomputable def kc78_10 (n : Nat × Nat) (m1 : Nat) : St → Option R78 := fun s => normC [1, 7, 25, 26, 27] s (kq78_9 n m1)
noncomputable def xb78_11 (n : Nat × Nat) (m1 : Nat) : Nat → St → Option R78 := fun j s => bif Nat.beq j 1 then normC [1, 7, 25, 26, 27] s (kq78_9 n m1) else (xb78_5 n) j s
noncomputable def xb78_13 (n : Nat × Nat) (m1 : Nat) : Nat → St → Option R78 := fun j s => bif Nat.beq j 2 then normC [1, 7, 25, 26, 27] s (kc78_10 n m1) else (xb78_11 n m1) j s
noncomputable def F78_14 (n : Nat × Nat) (m1 : Nat) : (St → Option R78) → St → Option R78 := fun K s => run (E78 n) (cA (cA (cB (cB (cA (cA (cB (cB (cA (cA (cB (cA (cB (cB (cB (cB c78)))))))))))))))) (Ann.fst (Ann.fst (Ann.snd (Ann.snd (Ann.fst (Ann.fst (Ann.snd (Ann.snd (Ann.fst (Ann.fst (Ann.snd (Ann.fst (Ann.snd (Ann.snd (Ann.snd (Ann.snd an78)))))))))))))))) (fun s => normC [1, 7, 9, 10, 25, 26, 27] s K) (xb78_13 n m1) rt78 s
noncomputable def kq78_17 (n : Nat × Nat) (m1 m2 : Nat) : St → Option R78 := run (E78 n) (cB (cB (cA (cA (cB (cB (cA (cA (cB (cB (cA (cA (cB (cA (cB (cB (cB (cB c78)))))))))))))))))) (Ann.snd (Ann.snd (Ann.fst (Ann.fst (Ann.snd (Ann.snd (Ann.fst (Ann.fst (Ann.snd (Ann.snd (Ann.fst (Ann.fst (Ann.snd (Ann.fst (Ann.snd (Ann.snd (Ann.snd (Ann.snd an78)))))))))))))))))) (fun s => normC [1, 7, 9, 10, 25, 26, 27] s (loopN (F78_14 n m1) m2)) (xb78_13 n m1) rt78
noncomputable def L78_1 (n : Nat × Nat) (m : Nat) (part1 : ByteArray) (v25 : List Int) (v26 : Int) (v27 : Int) (begun7 : List Int) : Option R78 := loopN (F78_6 n) m { tm := [uu, .c (.str part1), uu, uu, uu, uu, uu, .own 7 none false, uu, uu, uu, uu, uu, uu, uu, uu, uu, uu, uu, uu, uu, uu, uu, uu, uu, .c (.sl (.int .u8) v25 false), .c (.int .i64 v26), .c (.int .i64 v27), uu, uu, uu, uu, uu, uu, uu, uu, uu, uu, uu, uu, uu, uu, uu, uu, uu, uu, uu, uu, uu, uu, uu, uu, uu, uu, uu, uu, uu, uu, uu, uu], hp := (upd emp 7 (.arr (.int .i64) begun7 false)) }
noncomputable def L78_2 (n : Nat × Nat) (m1 : Nat) (m : Nat) (part1 : ByteArray) (c9 : Int) (k10 : Int) (v25 : List Int) (v26 : Int) (v27 : Int) (begun7 : List Int) : Option R78 := loopN (F78_14 n m1) m { tm := [uu, .c (.str part1), uu, uu, uu, uu, uu, .own 7 none false, uu, .c (.int .u8 c9), .c (.int .i64 k10), uu, uu, uu, uu, uu, uu, uu, uu, uu, uu, uu, uu, uu, uu, .c (.sl (.int .u8) v25 false), .c (.int .i64 v26), .c (.int .i64 v27), uu, uu, uu, uu, uu, uu, uu, uu, uu, uu, uu, uu, uu, uu, uu, uu, uu, uu, uu, uu, uu, uu, uu, uu, uu, uu, uu, uu, uu, uu, uu, uu], hp := (upd emp 7 (.arr (.int .i64) begun7 false)) }
noncomputable def L78_3 (n : Nat × Nat) (m1 m2 : Nat) (part1 : ByteArray) (c9 : Int) (k10 : Int) (v25 : List Int) (v26 : Int) (v27 : Int) (begun7 : List Int) : Option R78 := loopN (fun _ => (kq78_17 n m1 m2)) n.2 { tm := [uu, .c (.str part1), uu, uu, uu, uu, uu, .own 7 none false, uu, .c (.int .u8 c9), .c (.int .i64 k10), uu, uu, uu, uu, uu, uu, uu, uu, uu, uu, uu, uu, uu, uu, .c (.sl (.int .u8) v25 false), .c (.int .i64 v26), .c (.int .i64 v27), uu, uu, uu, uu, uu, uu, uu, uu, uu, uu, uu, uu, uu, uu, uu, uu, uu, uu, uu, uu, uu, uu, uu, uu, uu, uu, uu, uu, uu, uu, uu, uu], hp := (upd emp 7 (.arr (.int .i64) begun7 false)) }
theorem L78_1_eq (n : Nat × Nat) (m1 : Nat) (part1 : ByteArray) (v25 : List Int) (v26 : Int) (v27 : Int) (begun7 : List Int) : L78_1 n (m1 + 1) part1 v25 v26 v27 begun7 =
 (bif decide (v27 < v26) then (idx v25 v27).bind fun x3' =>
      L78_2 n m1 n.1 part1 x3' (part1.size : Int) v25 v26 v27 begun7
 else (bif inB (part1.size : Int) begun7.length then (idx begun7 (part1.size : Int)).bind fun x4' =>
 some (x4', 0)
 else none)) := by kernel_rfl
theorem L78_2_eq (n : Nat × Nat) (m1 m2 : Nat) (part1 : ByteArray) (c9 : Int) (k10 : Int) (v25 : List Int) (v26 : Int) (v27 : Int) (begun7 : List Int) : L78_2 n m1 (m2 + 1) part1 c9 k10 v25 v26 v27 begun7 =
 (bif decide (k10 > 0) then (idx (strBytes part1) (wr .i64 (k10 - 1))).bind fun x5' =>
 (bif (x5' == c9) then (bif inB k10 begun7.length then (idx begun7 k10).bind fun x6' =>
 (bif inB (wr .i64 (k10 - 1)) begun7.length then (idx begun7 (wr .i64 (k10 - 1))).bind fun x7' =>
 (bif inB k10 begun7.length then (idx begun7 k10).bind fun x8' =>
              L78_3 n m1 m2 part1 c9 k10 v25 v26 v27 (begun7.set (Int.toNat k10) (wr .i64 (x6' + x7')))
 else none)
 else none)
 else none)
 else L78_3 n m1 m2 part1 c9 k10 v25 v26 v27 begun7)
 else L78_1 n m1 part1 v25 v26 (wr .i64 (v27 + 1)) begun7) := by kernel_rfl
theorem L78_3_raw (n : Nat × Nat) (m1 m2 : Nat) (part1 : ByteArray) (c9 : Int) (k10 : Int) (v25 : List Int) (v26 : Int) (v27 : Int) (begun7 : List Int) : (kq78_17 n m1 m2) { tm := [uu, .c (.str part1), uu, uu, uu, uu, uu, .own 7 none false, uu, .c (.int .u8 c9), .c (.int .i64 k10), uu, uu, uu, uu, uu, uu, uu, uu, uu, uu, uu, uu, uu, uu, .c (.sl (.int .u8) v25 false), .c (.int .i64 v26), .c (.int .i64 v27), uu, uu, uu, uu, uu, uu, uu, uu, uu, uu, uu, uu, uu, uu, uu, uu, uu, uu, uu, uu, uu, uu, uu, uu, uu, uu, uu, uu, uu, uu, uu, uu], hp := (upd emp 7 (.arr (.int .i64) begun7 false)) } =
    L78_2 n m1 m2 part1 c9 (wr .i64 (k10 - 1)) v25 v26 v27 begun7 := by kernel_rfl
noncomputable def S78 (n : Nat × Nat) (word0 : ByteArray) (part1 : ByteArray) : Option R78 := run (E78 n) c78 an78 rt78 (fun _ _ => none) rt78 { tm := [.c (.str word0), .c (.str part1), uu, uu, uu, uu, uu, uu, uu, uu, uu, uu, uu, uu, uu, uu, uu, uu, uu, uu, uu, uu, uu, uu, uu, uu, uu, uu, uu, uu, uu, uu, uu, uu, uu, uu, uu, uu, uu, uu, uu, uu, uu, uu, uu, uu, uu, uu, uu, uu, uu, uu, uu, uu, uu, uu, uu, uu, uu, uu], hp := emp }
theorem S78_eq (n : Nat × Nat) (word0 : ByteArray) (part1 : ByteArray) : S78 n word0 part1 =
 (S92 n [word0, part1]).bind fun r1' =>
 (bif (r1' != 0) then some (0, r1')
 else (bif decide (0 ≤ wr .i64 ((part1.size : Int) + 1)) && decide (wr .i64 ((part1.size : Int) + 1) ≤ wr .i64 ((part1.size : Int) + 1)) && decide (wr .i64 ((part1.size : Int) + 1) ≤ lim) then (bif inB 0 (List.replicate (Int.toNat (wr .i64 ((part1.size : Int) + 1))) (0 : Int)).length then (idx (List.replicate (Int.toNat (wr .i64 ((part1.size : Int) + 1))) (0 : Int)) 0).bind fun x2' =>
          L78_1 n n.1 part1 (strBytes word0) ((strBytes word0).length : Int) 0 ((List.replicate (Int.toNat (wr .i64 ((part1.size : Int) + 1))) (0 : Int)).set (Int.toNat 0) 1)
 else none)
 else none)) := by kernel_rfl
theorem S78_run (n : Nat × Nat) (xs : pksDen pk78) : S78 n xs.1 xs.2.1 = runG (E78 n) noScope c78 an78 (rtG rk78) (fun _ _ => none) (rtG rk78) (st0 pk78 xs Tryz.f78.ntmps) := by kernel_rfl
noncomputable def P78 (n : Nat × Nat) := phiOf pk78 rk78 (fun xs => S78 n xs.1 xs.2.1)
theorem call78 : CallOK Tryz.prog 78 := callOK_of Tryz.func78 (by kernel_rfl) (by kernel_rfl)
theorem env78 (n : Nat × Nat) : EnvOK Tryz.prog (E78 n) := envOK0 (consPhi_ok (FC92 n) call92 noPhi_ok) rfl rfl
theorem par78 (n : Nat × Nat) : EnvPar (E78 n) := envPar0 (consPhi_par phiOf_Par1 noPhi_par) rfl
theorem FC78 (n : Nat × Nat) : FCs Tryz.prog 78 (P78 n) := phiOf_FCs fun xs r h vs hv => FC.of_runG tabOK eqsOK (env78 n) (par78 n) mixed (fun _ p _ => noScope_ok p.1 p.2) Tryz.func78 (c := c78) (an := an78) (pks := pk78) (rks := rk78) (by kernel_rfl) (by kernel_rfl) hv ((S78_run n xs).symm.trans h)
abbrev R93 := Int
noncomputable def c93 : Code := bodyOf Tryz.f93
noncomputable def an93 : Ann := (.s .l (.s (.s .l (.j [0, 1] (.s .l (.j [0, 1] .l (.s .l (.j [0, 1] .l .l)))) .l)) (.s (.s .l (.j [] (.j [1, 22] (.s .l (.s (.j [1, 22, 23] .l .l) (.j [1, 22] (.s .l (.s .l (.j [1, 22] .l .l))) .l))) .l) .l)) .l)))
def pk93 : List PK := [.c .str, .c (.int .i64)]
def rk93 : List RK := [.c (.int .i64) 4]
noncomputable def rt93 (st : St) : Option R93 := rtG rk93 st
noncomputable def E93 (n : Nat × Nat) : Env := { T := tab, phi := (consPhi 100 (fun _ => true) (P100 n) noPhi), eff := fun _ => false, fuel := n.1, hold := n.2 }
noncomputable def kq93_6 (n : Nat × Nat) : St → Option R93 := run (E93 n) (cB (cB (cB c93))) (Ann.snd (Ann.snd (Ann.snd an93))) rt93 (fun _ _ => none) rt93
noncomputable def xb93_8 (n : Nat × Nat) : Nat → St → Option R93 := fun j s => bif Nat.beq j 1 then normC [] s (kq93_6 n) else (fun _ _ => none) j s
noncomputable def F93_9 (n : Nat × Nat) : (St → Option R93) → St → Option R93 := fun K s => run (E93 n) (cA (cA (cB (cA (cB (cB c93)))))) (Ann.fst (Ann.fst (Ann.snd (Ann.fst (Ann.snd (Ann.snd an93)))))) (fun s => normC [1, 22] s K) (xb93_8 n) rt93 s
noncomputable def L93_1 (n : Nat × Nat) (m : Nat) (letters1 : Int) (v22s : ByteArray) (v22p : Nat) : Option R93 := loopN (F93_9 n) m { tm := [uu, .c (.int .i64 letters1), uu, uu, uu, uu, uu, uu, uu, uu, uu, uu, uu, uu, uu, uu, uu, uu, uu, uu, uu, uu, .ptr 22 0, uu, uu, uu, uu, uu, uu, uu, uu], hp := (upd emp 22 (.iter v22s v22p)) }
theorem L93_1_eq (n : Nat × Nat) (m1 : Nat) (letters1 : Int) (v22s : ByteArray) (v22p : Nat) : L93_1 n (m1 + 1) letters1 v22s v22p =
 (bif Nat.blt v22p v22s.size then ((strBytes v22s)[v22p]?).bind fun x3' =>
 (bif decide (x3' < 128) then (bif decide (x3' ≥ wr .i32 (97 + (wr .i32 letters1))) then some 2
 else L93_1 n m1 letters1 v22s (v22p + 1))
 else none)
 else some 0) := by kernel_rfl
noncomputable def S93 (n : Nat × Nat) (word0 : ByteArray) (letters1 : Int) : Option R93 := run (E93 n) c93 an93 rt93 (fun _ _ => none) rt93 { tm := [.c (.str word0), .c (.int .i64 letters1), uu, uu, uu, uu, uu, uu, uu, uu, uu, uu, uu, uu, uu, uu, uu, uu, uu, uu, uu, uu, uu, uu, uu, uu, uu, uu, uu, uu, uu], hp := emp }
theorem S93_eq (n : Nat × Nat) (word0 : ByteArray) (letters1 : Int) : S93 n word0 letters1 =
 (S100 n word0).bind fun r1' =>
 (bif (r1' != 0) then some r1'
 else ((bif (decide (letters1 < 1) == false) then some (decide (letters1 > 6))
 else some true)).bind fun b2' =>
 (bif b2' then some 1
 else L93_1 n n.1 letters1 word0 0)) := by kernel_rfl
theorem S93_run (n : Nat × Nat) (xs : pksDen pk93) : S93 n xs.1 xs.2.1 = runG (E93 n) noScope c93 an93 (rtG rk93) (fun _ _ => none) (rtG rk93) (st0 pk93 xs Tryz.f93.ntmps) := by kernel_rfl
noncomputable def P93 (n : Nat × Nat) := phiOf pk93 rk93 (fun xs => S93 n xs.1 xs.2.1)
theorem call93 : CallOK Tryz.prog 93 := callOK_of Tryz.func93 (by kernel_rfl) (by kernel_rfl)
theorem env93 (n : Nat × Nat) : EnvOK Tryz.prog (E93 n) := envOK0 (consPhi_ok (FC100 n) call100 noPhi_ok) rfl rfl
theorem par93 (n : Nat × Nat) : EnvPar (E93 n) := envPar0 (consPhi_par phiOf_Par1 noPhi_par) rfl
theorem FC93 (n : Nat × Nat) : FCs Tryz.prog 93 (P93 n) := phiOf_FCs fun xs r h vs hv => FC.of_runG tabOK eqsOK (env93 n) (par93 n) mixed (fun _ p _ => noScope_ok p.1 p.2) Tryz.func93 (c := c93) (an := an93) (pks := pk93) (rks := rk93) (by kernel_rfl) (by kernel_rfl) hv ((S93_run n xs).symm.trans h)
abbrev R94 := List Int
noncomputable def c94 : Code := bodyOf Tryz.f94
noncomputable def an94 : Ann := (.s .l (.s .l (.s .l (.s (.s .l (.j [5] (.j [1, 5, 6, 11] (.s .l (.s (.j [1, 5, 6, 11, 12] .l .l) (.j [1, 5, 6, 11] (.s .l (.s .l (.s .l (.j [1, 5, 6, 11] .l .l)))) .l))) .l) .l)) .l))))
def pk94 : List PK := [.c .str, .c (.int .i64)]
def rk94 : List RK := [.own (.int .i64) 4]
noncomputable def rt94 (st : St) : Option R94 := rtG rk94 st
noncomputable def E94 (n : Nat × Nat) : Env := { T := tab, phi := noPhi, eff := fun _ => false, fuel := n.1, hold := n.2 }
noncomputable def kq94_1 (n : Nat × Nat) : St → Option R94 := run (E94 n) (cB (cB (cB (cB c94)))) (Ann.snd (Ann.snd (Ann.snd (Ann.snd an94)))) rt94 (fun _ _ => none) rt94
noncomputable def xb94_3 (n : Nat × Nat) : Nat → St → Option R94 := fun j s => bif Nat.beq j 0 then normC [5] s (kq94_1 n) else (fun _ _ => none) j s
noncomputable def F94_4 (n : Nat × Nat) : (St → Option R94) → St → Option R94 := fun K s => run (E94 n) (cA (cA (cB (cA (cB (cB (cB c94))))))) (Ann.fst (Ann.fst (Ann.snd (Ann.fst (Ann.snd (Ann.snd (Ann.snd an94))))))) (fun s => normC [1, 5, 6, 11] s K) (xb94_3 n) rt94 s
noncomputable def L94_1 (n : Nat × Nat) (m : Nat) (letters1 : Int) (out5 : List Int) (met6 : List (Int × Bool)) (v11s : ByteArray) (v11p : Nat) : Option R94 := loopN (F94_4 n) m { tm := [uu, .c (.int .i64 letters1), uu, uu, uu, .own 5 none false, .map 6, uu, uu, uu, uu, .ptr 11 0, uu, uu, uu, uu, uu, uu, uu, uu, uu, uu, uu, uu, uu, uu, uu, uu, uu], hp := (upd (upd (upd emp 11 (.iter v11s v11p)) 6 (.mp .i32 .bool met6)) 5 (.arr (.int .i64) out5 false)) }
theorem L94_1_eq (n : Nat × Nat) (m1 : Nat) (letters1 : Int) (out5 : List Int) (met6 : List (Int × Bool)) (v11s : ByteArray) (v11p : Nat) : L94_1 n (m1 + 1) letters1 out5 met6 v11s v11p =
 (bif Nat.blt v11p v11s.size then ((strBytes v11s)[v11p]?).bind fun x1' =>
 (bif decide (x1' < 128) then (bif (((aset met6 x1' true).length : Int) == letters1) then (bif decide (out5.length + [wr .i64 ((v11p : Int) + 1)].length ≤ lim) then L94_1 n m1 letters1 (out5 ++ [wr .i64 ((v11p : Int) + 1)]) [] v11s (v11p + 1)
 else none)
 else L94_1 n m1 letters1 out5 (aset met6 x1' true) v11s (v11p + 1))
 else none)
 else some out5) := by kernel_rfl
noncomputable def S94 (n : Nat × Nat) (word0 : ByteArray) (letters1 : Int) : Option R94 := run (E94 n) c94 an94 rt94 (fun _ _ => none) rt94 { tm := [.c (.str word0), .c (.int .i64 letters1), uu, uu, uu, uu, uu, uu, uu, uu, uu, uu, uu, uu, uu, uu, uu, uu, uu, uu, uu, uu, uu, uu, uu, uu, uu, uu, uu], hp := emp }
theorem S94_eq (n : Nat × Nat) (word0 : ByteArray) (letters1 : Int) : S94 n word0 letters1 =
    L94_1 n n.1 letters1 [] [] word0 0 := by kernel_rfl
theorem S94_run (n : Nat × Nat) (xs : pksDen pk94) : S94 n xs.1 xs.2.1 = runG (E94 n) noScope c94 an94 (rtG rk94) (fun _ _ => none) (rtG rk94) (st0 pk94 xs Tryz.f94.ntmps) := by kernel_rfl
noncomputable def P94 (n : Nat × Nat) := phiOf pk94 rk94 (fun xs => S94 n xs.1 xs.2.1)
theorem call94 : CallOK Tryz.prog 94 := callOK_of Tryz.func94 (by kernel_rfl) (by kernel_rfl)
theorem env94 (n : Nat × Nat) : EnvOK Tryz.prog (E94 n) := envOK0 noPhi_ok rfl rfl
theorem par94 (n : Nat × Nat) : EnvPar (E94 n) := envPar0 noPhi_par rfl
theorem FC94 (n : Nat × Nat) : FCs Tryz.prog 94 (P94 n) := phiOf_FCs fun xs r h vs hv => FC.of_runG tabOK eqsOK (env94 n) (par94 n) mixed (fun _ p _ => noScope_ok p.1 p.2) Tryz.func94 (c := c94) (an := an94) (pks := pk94) (rks := rk94) (by kernel_rfl) (by kernel_rfl) hv ((S94_run n xs).symm.trans h)
/- slices.Index[[]byte,byte] -/
abbrev R95 := Int
noncomputable def c95 : Code := bodyOf Tryz.f95
noncomputable def an95 : Ann := (.s .l (.s (.s .l (.j [] (.j [0, 1, 7, 8] (.s .l (.s (.j [0, 1, 7, 8] .l .l) (.s (.j [0, 1, 7, 8] (.s .l (.s .l (.j [0, 1, 7, 8] .l .l))) .l) .l))) .l) .l)) .l))
def pk95 : List PK := [.c (.sl (.int .u8)), .c (.int .u8)]
def rk95 : List RK := [.c (.int .i64) 4]
noncomputable def rt95 (st : St) : Option R95 := rtG rk95 st
noncomputable def E95 (n : Nat × Nat) : Env := { T := tab, phi := noPhi, eff := fun _ => false, fuel := n.1, hold := n.2 }
noncomputable def kq95_1 (n : Nat × Nat) : St → Option R95 := run (E95 n) (cB (cB c95)) (Ann.snd (Ann.snd an95)) rt95 (fun _ _ => none) rt95
noncomputable def xb95_3 (n : Nat × Nat) : Nat → St → Option R95 := fun j s => bif Nat.beq j 0 then normC [] s (kq95_1 n) else (fun _ _ => none) j s
noncomputable def F95_4 (n : Nat × Nat) : (St → Option R95) → St → Option R95 := fun K s => run (E95 n) (cA (cA (cB (cA (cB c95))))) (Ann.fst (Ann.fst (Ann.snd (Ann.fst (Ann.snd an95))))) (fun s => normC [0, 1, 7, 8] s K) (xb95_3 n) rt95 s
noncomputable def L95_1 (n : Nat × Nat) (m : Nat) (s0 : List Int) (v1 : Int) (v7 : Int) (v8 : Int) : Option R95 := loopN (F95_4 n) m { tm := [.c (.sl (.int .u8) s0 false), .c (.int .u8 v1), uu, uu, uu, uu, uu, .c (.int .i64 v7), .c (.int .i64 v8), uu, uu, uu, uu, uu, uu, uu, uu, uu, uu], hp := emp }
theorem L95_1_eq (n : Nat × Nat) (m1 : Nat) (s0 : List Int) (v1 : Int) (v7 : Int) (v8 : Int) : L95_1 n (m1 + 1) s0 v1 v7 v8 =
 (bif decide (v8 < v7) then (idx s0 v8).bind fun x1' =>
 (bif (v1 == x1') then some v8
 else L95_1 n m1 s0 v1 v7 (wr .i64 (v8 + 1)))
 else some (-1)) := by kernel_rfl
noncomputable def S95 (n : Nat × Nat) (s0 : List Int) (v1 : Int) : Option R95 := run (E95 n) c95 an95 rt95 (fun _ _ => none) rt95 { tm := [.c (.sl (.int .u8) s0 false), .c (.int .u8 v1), uu, uu, uu, uu, uu, uu, uu, uu, uu, uu, uu, uu, uu, uu, uu, uu, uu], hp := emp }
theorem S95_eq (n : Nat × Nat) (s0 : List Int) (v1 : Int) : S95 n s0 v1 =
    L95_1 n n.1 s0 v1 (s0.length : Int) 0 := by kernel_rfl
theorem S95_run (n : Nat × Nat) (xs : pksDen pk95) : S95 n xs.1 xs.2.1 = runG (E95 n) noScope c95 an95 (rtG rk95) (fun _ _ => none) (rtG rk95) (st0 pk95 xs Tryz.f95.ntmps) := by kernel_rfl
noncomputable def P95 (n : Nat × Nat) := phiOf pk95 rk95 (fun xs => S95 n xs.1 xs.2.1)
theorem call95 : CallOK Tryz.prog 95 := callOK_of Tryz.func95 (by kernel_rfl) (by kernel_rfl)
theorem env95 (n : Nat × Nat) : EnvOK Tryz.prog (E95 n) := envOK0 noPhi_ok rfl rfl
theorem par95 (n : Nat × Nat) : EnvPar (E95 n) := envPar0 noPhi_par rfl
theorem FC95 (n : Nat × Nat) : FCs Tryz.prog 95 (P95 n) := phiOf_FCs fun xs r h vs hv => FC.of_runG tabOK eqsOK (env95 n) (par95 n) mixed (fun _ p _ => noScope_ok p.1 p.2) Tryz.func95 (c := c95) (an := an95) (pks := pk95) (rks := rk95) (by kernel_rfl) (by kernel_rfl) hv ((S95_run n xs).symm.trans h)
abbrev R79 := ByteArray × Int
noncomputable def c79 : Code := bodyOf Tryz.f79
noncomputable def an79 : Ann := (.s .l (.s (.s .l (.s .l (.j [0, 1, 28, 29, 49, 50, 51, 52, 53, 54, 55, 56, 57, 58] .l .l))) (.s .l (.j [4, 5] (.j [0, 1, 7, 28, 29, 49, 50, 51, 52, 53, 54, 55, 56, 57, 58] (.j [0, 1, 7, 28, 29, 49, 50, 51, 52, 53, 54, 55, 56, 57, 58] (.s .l (.s .l (.s .l (.j [0, 1, 7, 28, 29, 49, 50, 51, 52, 53, 54, 55, 56, 57, 58] (.j [0, 1, 7, 8, 9, 10, 28, 29, 49, 50, 51, 52, 53, 54, 55, 56, 57, 58] (.s (.s .l (.j [0, 1, 7, 8, 9, 10, 28, 29, 49, 50, 51, 52, 53, 54, 55, 56, 57, 58] .l .l)) (.j [] (.j [0, 1, 7, 8, 9, 10, 28, 29, 49, 50, 51, 52, 53, 54, 55, 56, 57, 58] (.s .l (.j [0, 1, 7, 8, 9, 10, 28, 29, 49, 50, 51, 52, 53, 54, 55, 56, 57, 58] (.s .l (.j [0, 1, 7, 8, 9, 10, 28, 29, 49, 50, 51, 52, 53, 54, 55, 56, 57, 58] .l (.s .l (.j [0, 1, 7, 8, 9, 10, 28, 29, 49, 50, 51, 52, 53, 54, 55, 56, 57, 58] .l .l)))) .l)) .l) .l)) .l) .l)))) .l) .l) .l))))
def pk79 : List PK := [.c .str, .c (.int .i64)]
def rk79 : List RK := [.c .str 4, .c (.int .i64) 5]
noncomputable def rt79 (st : St) : Option R79 := rtG rk79 st
noncomputable def E79 (n : Nat × Nat) : Env := { T := tab, phi := (consPhi 93 (fun _ => true) (P93 n) (consPhi 94 (fun _ => true) (P94 n) (consPhi 95 (fun _ => true) (P95 n) noPhi))), eff := fun _ => false, fuel := n.1, hold := n.2 }
noncomputable def xb79_4 (n : Nat × Nat) : Nat → St → Option R79 := fun j s => bif Nat.beq j 0 then normC [4, 5] s rt79 else (fun _ _ => none) j s
noncomputable def F79_5 (n : Nat × Nat) : (St → Option R79) → St → Option R79 := fun K s => run (E79 n) (cA (cA (cB (cB (cB c79))))) (Ann.fst (Ann.fst (Ann.snd (Ann.snd (Ann.snd an79))))) (fun s => normC [0, 1, 7, 28, 29, 49, 50, 51, 52, 53, 54, 55, 56, 57, 58] s K) (xb79_4 n) rt79 s
noncomputable def kc79_6 (n : Nat × Nat) (m1 : Nat) : St → Option R79 := fun s => normC [0, 1, 7, 28, 29, 49, 50, 51, 52, 53, 54, 55, 56, 57, 58] s (fun s => normC [0, 1, 7, 28, 29, 49, 50, 51, 52, 53, 54, 55, 56, 57, 58] s (loopN (F79_5 n) m1))
noncomputable def xb79_7 (n : Nat × Nat) (m1 : Nat) : Nat → St → Option R79 := fun j s => bif Nat.beq j 1 then normC [0, 1, 7, 28, 29, 49, 50, 51, 52, 53, 54, 55, 56, 57, 58] s (fun s => normC [0, 1, 7, 28, 29, 49, 50, 51, 52, 53, 54, 55, 56, 57, 58] s (loopN (F79_5 n) m1)) else (xb79_4 n) j s
noncomputable def xb79_9 (n : Nat × Nat) (m1 : Nat) : Nat → St → Option R79 := fun j s => bif Nat.beq j 2 then normC [0, 1, 7, 28, 29, 49, 50, 51, 52, 53, 54, 55, 56, 57, 58] s (kc79_6 n m1) else (xb79_7 n m1) j s
noncomputable def F79_10 (n : Nat × Nat) (m1 : Nat) : (St → Option R79) → St → Option R79 := fun K s => run (E79 n) (cA (cA (cB (cB (cB (cA (cA (cA (cB (cB (cB c79))))))))))) (Ann.fst (Ann.fst (Ann.snd (Ann.snd (Ann.snd (Ann.fst (Ann.fst (Ann.fst (Ann.snd (Ann.snd (Ann.snd an79))))))))))) (fun s => normC [0, 1, 7, 8, 9, 10, 28, 29, 49, 50, 51, 52, 53, 54, 55, 56, 57, 58] s K) (xb79_9 n m1) rt79 s
noncomputable def kq79_13 (n : Nat × Nat) (m1 m2 : Nat) : St → Option R79 := run (E79 n) (cB (cB (cA (cA (cB (cB (cB (cA (cA (cA (cB (cB (cB c79))))))))))))) (Ann.snd (Ann.snd (Ann.fst (Ann.fst (Ann.snd (Ann.snd (Ann.snd (Ann.fst (Ann.fst (Ann.fst (Ann.snd (Ann.snd (Ann.snd an79))))))))))))) (fun s => normC [0, 1, 7, 8, 9, 10, 28, 29, 49, 50, 51, 52, 53, 54, 55, 56, 57, 58] s (loopN (F79_10 n m1) m2)) (xb79_9 n m1) rt79
noncomputable def L79_1 (n : Nat × Nat) (m : Nat) (word0 : ByteArray) (letters1 : Int) (out7 : List Int) : Option R79 := loopN (F79_5 n) m { tm := [.c (.str word0), .c (.int .i64 letters1), uu, uu, uu, uu, uu, .own 7 none false, uu, uu, uu, uu, uu, uu, uu, uu, uu, uu, uu, uu, uu, uu, uu, uu, uu, uu, uu, uu, uu, uu, uu, uu, uu, uu, uu, uu, uu, uu, uu, uu, uu, uu, uu, uu, uu, uu, uu, uu, uu, uu, uu, uu, uu, uu, uu, uu, uu, uu, uu, uu, uu, uu, uu, uu, uu, uu, uu, uu], hp := (upd emp 7 (.arr (.int .u8) out7 false)) }
noncomputable def L79_2 (n : Nat × Nat) (m1 : Nat) (m : Nat) (word0 : ByteArray) (letters1 : Int) (left8 : Int) (found9 : Bool) (c10 : Int) (out7 : List Int) : Option R79 := loopN (F79_10 n m1) m { tm := [.c (.str word0), .c (.int .i64 letters1), uu, uu, uu, uu, uu, .own 7 none false, .c (.int .i64 left8), .c (.bool found9), .c (.int .u8 c10), uu, uu, uu, uu, uu, uu, uu, uu, uu, uu, uu, uu, uu, uu, uu, uu, uu, uu, uu, uu, uu, uu, uu, uu, uu, uu, uu, uu, uu, uu, uu, uu, uu, uu, uu, uu, uu, uu, uu, uu, uu, uu, uu, uu, uu, uu, uu, uu, uu, uu, uu, uu, uu, uu, uu, uu, uu], hp := (upd emp 7 (.arr (.int .u8) out7 false)) }
noncomputable def L79_3 (n : Nat × Nat) (m1 m2 : Nat) (word0 : ByteArray) (letters1 : Int) (left8 : Int) (found9 : Bool) (c10 : Int) (out7 : List Int) : Option R79 := loopN (fun _ => (kq79_13 n m1 m2)) n.2 { tm := [.c (.str word0), .c (.int .i64 letters1), uu, uu, uu, uu, uu, .own 7 none false, .c (.int .i64 left8), .c (.bool found9), .c (.int .u8 c10), uu, uu, uu, uu, uu, uu, uu, uu, uu, uu, uu, uu, uu, uu, uu, uu, uu, uu, uu, uu, uu, uu, uu, uu, uu, uu, uu, uu, uu, uu, uu, uu, uu, uu, uu, uu, uu, uu, uu, uu, uu, uu, uu, uu, uu, uu, uu, uu, uu, uu, uu, uu, uu, uu, uu, uu, uu], hp := (upd emp 7 (.arr (.int .u8) out7 false)) }
theorem L79_1_eq (n : Nat × Nat) (m1 : Nat) (word0 : ByteArray) (letters1 : Int) (out7 : List Int) : L79_1 n (m1 + 1) word0 letters1 out7 =
 (S94 n word0 letters1).bind fun r2' =>
    L79_2 n m1 n.1 word0 letters1 (r2'.length : Int) false 97 out7 := by kernel_rfl
theorem L79_2_eq (n : Nat × Nat) (m1 m2 : Nat) (word0 : ByteArray) (letters1 : Int) (left8 : Int) (found9 : Bool) (c10 : Int) (out7 : List Int) : L79_2 n m1 (m2 + 1) word0 letters1 left8 found9 c10 out7 =
 ((bif (decide (c10 < wr .u8 (wr .i64 (97 + letters1))) == true) then some (!found9)
 else some false)).bind fun b3' =>
 (bif b3' then (S95 n (strBytes word0) c10).bind fun r4' =>
 (bif decide (r4' < 0) then (bif decide (out7.length + [c10].length ≤ lim) then some (strNums (out7 ++ [c10]), 0)
 else none)
 else ((bif (decide (left8 > 0) == true) then (bif bounds (some (wr .i64 (r4' + 1))) none none word0.size then (S94 n (strCut (some (wr .i64 (r4' + 1))) none word0) letters1).bind fun r5' =>
 some ((r5'.length : Int) == (wr .i64 (left8 - 1)))
 else none)
 else some false)).bind fun b6' =>
 (bif b6' then (bif decide (out7.length + [c10].length ≤ lim) then (bif bounds (some (wr .i64 (r4' + 1))) none none word0.size then L79_3 n m1 m2 (strCut (some (wr .i64 (r4' + 1))) none word0) letters1 left8 true c10 (out7 ++ [c10])
 else none)
 else none)
 else L79_3 n m1 m2 word0 letters1 left8 found9 c10 out7))
 else L79_1 n m1 word0 letters1 out7) := by kernel_rfl
theorem L79_3_raw (n : Nat × Nat) (m1 m2 : Nat) (word0 : ByteArray) (letters1 : Int) (left8 : Int) (found9 : Bool) (c10 : Int) (out7 : List Int) : (kq79_13 n m1 m2) { tm := [.c (.str word0), .c (.int .i64 letters1), uu, uu, uu, uu, uu, .own 7 none false, .c (.int .i64 left8), .c (.bool found9), .c (.int .u8 c10), uu, uu, uu, uu, uu, uu, uu, uu, uu, uu, uu, uu, uu, uu, uu, uu, uu, uu, uu, uu, uu, uu, uu, uu, uu, uu, uu, uu, uu, uu, uu, uu, uu, uu, uu, uu, uu, uu, uu, uu, uu, uu, uu, uu, uu, uu, uu, uu, uu, uu, uu, uu, uu, uu, uu, uu, uu], hp := (upd emp 7 (.arr (.int .u8) out7 false)) } =
    L79_2 n m1 m2 word0 letters1 left8 found9 (wr .u8 (c10 + 1)) out7 := by kernel_rfl
noncomputable def S79 (n : Nat × Nat) (word0 : ByteArray) (letters1 : Int) : Option R79 := run (E79 n) c79 an79 rt79 (fun _ _ => none) rt79 { tm := [.c (.str word0), .c (.int .i64 letters1), uu, uu, uu, uu, uu, uu, uu, uu, uu, uu, uu, uu, uu, uu, uu, uu, uu, uu, uu, uu, uu, uu, uu, uu, uu, uu, uu, uu, uu, uu, uu, uu, uu, uu, uu, uu, uu, uu, uu, uu, uu, uu, uu, uu, uu, uu, uu, uu, uu, uu, uu, uu, uu, uu, uu, uu, uu, uu, uu, uu, uu, uu, uu, uu, uu, uu], hp := emp }
theorem S79_eq (n : Nat × Nat) (word0 : ByteArray) (letters1 : Int) : S79 n word0 letters1 =
 (S93 n word0 letters1).bind fun r1' =>
 (bif (r1' != 0) then some ((⟨#[]⟩ : ByteArray), r1')
 else L79_1 n n.1 word0 letters1 []) := by kernel_rfl
theorem S79_run (n : Nat × Nat) (xs : pksDen pk79) : S79 n xs.1 xs.2.1 = runG (E79 n) noScope c79 an79 (rtG rk79) (fun _ _ => none) (rtG rk79) (st0 pk79 xs Tryz.f79.ntmps) := by kernel_rfl
noncomputable def P79 (n : Nat × Nat) := phiOf pk79 rk79 (fun xs => S79 n xs.1 xs.2.1)
theorem call79 : CallOK Tryz.prog 79 := callOK_of Tryz.func79 (by kernel_rfl) (by kernel_rfl)
theorem env79 (n : Nat × Nat) : EnvOK Tryz.prog (E79 n) := envOK0 (consPhi_ok (FC93 n) call93 (consPhi_ok (FC94 n) call94 (consPhi_ok (FC95 n) call95 noPhi_ok))) rfl rfl
theorem par79 (n : Nat × Nat) : EnvPar (E79 n) := envPar0 (consPhi_par phiOf_Par1 (consPhi_par phiOf_Par1 (consPhi_par phiOf_Par1 noPhi_par))) rfl
theorem FC79 (n : Nat × Nat) : FCs Tryz.prog 79 (P79 n) := phiOf_FCs fun xs r h vs hv => FC.of_runG tabOK eqsOK (env79 n) (par79 n) mixed (fun _ p _ => noScope_ok p.1 p.2) Tryz.func79 (c := c79) (an := an79) (pks := pk79) (rks := rk79) (by kernel_rfl) (by kernel_rfl) hv ((S79_run n xs).symm.trans h)
abbrev R80 := Bool
noncomputable def c80 : Code := bodyOf Tryz.f80
noncomputable def an80 : Ann := (.s .l (.s (.s .l (.j [1] (.j [0, 1, 5, 11, 12] (.s (.s .l (.j [0, 1, 5, 11, 12] .l .l)) (.j [] (.j [0, 1, 5, 11, 12] (.s .l (.j [0, 1, 5, 11, 12] .l .l)) .l) .l)) .l) .l)) .l))
def pk80 : List PK := [.c .str, .c .str]
def rk80 : List RK := [.c .bool 4]
noncomputable def rt80 (st : St) : Option R80 := rtG rk80 st
noncomputable def E80 (n : Nat × Nat) : Env := { T := tab, phi := noPhi, eff := fun _ => false, fuel := n.1, hold := n.2 }
noncomputable def kq80_1 (n : Nat × Nat) : St → Option R80 := run (E80 n) (cB (cB c80)) (Ann.snd (Ann.snd an80)) rt80 (fun _ _ => none) rt80
noncomputable def xb80_3 (n : Nat × Nat) : Nat → St → Option R80 := fun j s => bif Nat.beq j 0 then normC [1] s (kq80_1 n) else (fun _ _ => none) j s
noncomputable def F80_4 (n : Nat × Nat) : (St → Option R80) → St → Option R80 := fun K s => run (E80 n) (cA (cA (cB (cA (cB c80))))) (Ann.fst (Ann.fst (Ann.snd (Ann.fst (Ann.snd an80))))) (fun s => normC [0, 1, 5, 11, 12] s K) (xb80_3 n) rt80 s
noncomputable def kq80_7 (n : Nat × Nat) (m1 : Nat) : St → Option R80 := run (E80 n) (cB (cB (cA (cA (cB (cA (cB c80))))))) (Ann.snd (Ann.snd (Ann.fst (Ann.fst (Ann.snd (Ann.fst (Ann.snd an80))))))) (fun s => normC [0, 1, 5, 11, 12] s (loopN (F80_4 n) m1)) (xb80_3 n) rt80
noncomputable def L80_1 (n : Nat × Nat) (m : Nat) (word0 : ByteArray) (part1 : ByteArray) (i5 : Int) : Option R80 := loopN (F80_4 n) m { tm := [.c (.str word0), .c (.str part1), uu, uu, uu, .c (.int .i64 i5), uu, uu, uu, uu, uu, uu, uu, uu, uu, uu, uu, uu, uu, uu, uu, uu, uu, uu, uu, uu], hp := emp }
noncomputable def L80_2 (n : Nat × Nat) (m1 : Nat) (word0 : ByteArray) (part1 : ByteArray) (i5 : Int) : Option R80 := loopN (fun _ => (kq80_7 n m1)) n.2 { tm := [.c (.str word0), .c (.str part1), uu, uu, uu, .c (.int .i64 i5), uu, uu, uu, uu, uu, uu, uu, uu, uu, uu, uu, uu, uu, uu, uu, uu, uu, uu, uu, uu], hp := emp }
theorem L80_1_eq (n : Nat × Nat) (m1 : Nat) (word0 : ByteArray) (part1 : ByteArray) (i5 : Int) : L80_1 n (m1 + 1) word0 part1 i5 =
 ((bif (decide (i5 < (word0.size : Int)) == true) then some (!strEq part1 (⟨#[]⟩ : ByteArray))
 else some false)).bind fun b1' =>
 (bif b1' then (idx (strBytes word0) i5).bind fun x2' =>
 (idx (strBytes part1) 0).bind fun x3' =>
 (bif (x2' == x3') then (bif bounds (some 1) none none part1.size then L80_2 n m1 word0 (strCut (some 1) none part1) i5
 else none)
 else L80_2 n m1 word0 part1 i5)
 else some (strEq part1 (⟨#[]⟩ : ByteArray))) := by kernel_rfl
theorem L80_2_raw (n : Nat × Nat) (m1 : Nat) (word0 : ByteArray) (part1 : ByteArray) (i5 : Int) : (kq80_7 n m1) { tm := [.c (.str word0), .c (.str part1), uu, uu, uu, .c (.int .i64 i5), uu, uu, uu, uu, uu, uu, uu, uu, uu, uu, uu, uu, uu, uu, uu, uu, uu, uu, uu, uu], hp := emp } =
    L80_1 n m1 word0 part1 (wr .i64 (i5 + 1)) := by kernel_rfl
noncomputable def S80 (n : Nat × Nat) (word0 : ByteArray) (part1 : ByteArray) : Option R80 := run (E80 n) c80 an80 rt80 (fun _ _ => none) rt80 { tm := [.c (.str word0), .c (.str part1), uu, uu, uu, uu, uu, uu, uu, uu, uu, uu, uu, uu, uu, uu, uu, uu, uu, uu, uu, uu, uu, uu, uu, uu], hp := emp }
theorem S80_eq (n : Nat × Nat) (word0 : ByteArray) (part1 : ByteArray) : S80 n word0 part1 =
    L80_1 n n.1 word0 part1 0 := by kernel_rfl
theorem S80_run (n : Nat × Nat) (xs : pksDen pk80) : S80 n xs.1 xs.2.1 = runG (E80 n) noScope c80 an80 (rtG rk80) (fun _ _ => none) (rtG rk80) (st0 pk80 xs Tryz.f80.ntmps) := by kernel_rfl
noncomputable def P80 (n : Nat × Nat) := phiOf pk80 rk80 (fun xs => S80 n xs.1 xs.2.1)
theorem call80 : CallOK Tryz.prog 80 := callOK_of Tryz.func80 (by kernel_rfl) (by kernel_rfl)
theorem env80 (n : Nat × Nat) : EnvOK Tryz.prog (E80 n) := envOK0 noPhi_ok rfl rfl
theorem par80 (n : Nat × Nat) : EnvPar (E80 n) := envPar0 noPhi_par rfl
theorem FC80 (n : Nat × Nat) : FCs Tryz.prog 80 (P80 n) := phiOf_FCs fun xs r h vs hv => FC.of_runG tabOK eqsOK (env80 n) (par80 n) mixed (fun _ p _ => noScope_ok p.1 p.2) Tryz.func80 (c := c80) (an := an80) (pks := pk80) (rks := rk80) (by kernel_rfl) (by kernel_rfl) hv ((S80_run n xs).symm.trans h)
abbrev R70 := Bool
noncomputable def c70 : Code := bodyOf Tryz.f70
noncomputable def an70 : Ann := .l
def pk70 : List PK := []
def rk70 : List RK := [.c .bool 0]
noncomputable def rt70 (st : St) : Option R70 := rtG rk70 st
noncomputable def E70 (n : Nat × Nat) : Env := { T := tab, phi := (consPhi 78 (fun _ => true) (P78 n) (consPhi 79 (fun _ => true) (P79 n) (consPhi 80 (fun _ => true) (P80 n) noPhi))), eff := fun _ => false, fuel := n.1, hold := n.2 }
noncomputable def S70 (n : Nat × Nat) : Option R70 := run (E70 n) c70 an70 rt70 (fun _ _ => none) rt70 { tm := [uu, uu, uu, uu, uu, uu, uu, uu, uu, uu, uu, uu, uu, uu, uu, uu, uu, uu, uu, uu, uu, uu, uu, uu, uu, uu, uu, uu, uu, uu], hp := emp }
theorem S70_eq (n : Nat × Nat) : S70 n =
 (S78 n (⟨#[97, 98, 99, 97]⟩ : ByteArray) (⟨#[97]⟩ : ByteArray)).bind fun r1' =>
 (S79 n (⟨#[97, 98, 98, 97]⟩ : ByteArray) 2).bind fun r2' =>
 ((bif ((r1'.2 == 0) == true) then some (r2'.2 == 0)
 else some false)).bind fun b3' =>
 ((bif (b3' == true) then some (r1'.1 == 2)
 else some false)).bind fun b4' =>
 ((bif (b4' == true) then some (strEq r2'.1 (⟨#[97, 97, 97]⟩ : ByteArray))
 else some false)).bind fun b5' =>
 ((bif (b5' == true) then (S80 n (⟨#[100, 97, 121, 45, 98, 111, 111, 107]⟩ : ByteArray) (⟨#[121, 98, 107]⟩ : ByteArray)).bind fun r6' =>
 some r6'
 else some false)).bind fun b7' =>
 some b7' := by kernel_rfl
theorem S70_run (n : Nat × Nat) (xs : pksDen pk70) : S70 n = runG (E70 n) noScope c70 an70 (rtG rk70) (fun _ _ => none) (rtG rk70) (st0 pk70 xs Tryz.f70.ntmps) := by kernel_rfl
noncomputable def P70 (n : Nat × Nat) := phiOf pk70 rk70 (fun xs => S70 n)
theorem call70 : CallOK Tryz.prog 70 := callOK_of Tryz.func70 (by kernel_rfl) (by kernel_rfl)
theorem env70 (n : Nat × Nat) : EnvOK Tryz.prog (E70 n) := envOK0 (consPhi_ok (FC78 n) call78 (consPhi_ok (FC79 n) call79 (consPhi_ok (FC80 n) call80 noPhi_ok))) rfl rfl
theorem par70 (n : Nat × Nat) : EnvPar (E70 n) := envPar0 (consPhi_par phiOf_Par1 (consPhi_par phiOf_Par1 (consPhi_par phiOf_Par1 noPhi_par))) rfl
theorem FC70 (n : Nat × Nat) : FCs Tryz.prog 70 (P70 n) := phiOf_FCs fun xs r h vs hv => FC.of_runG tabOK eqsOK (env70 n) (par70 n) mixed (fun _ p _ => noScope_ok p.1 p.2) Tryz.func70 (c := c70) (an := an70) (pks := pk70) (rks := rk70) (by kernel_rfl) (by kernel_rfl) hv ((S70_run n xs).symm.trans h)
abbrev R58 := Bool
noncomputable def c58 : Code := bodyOf Tryz.f58
noncomputable def an58 : Ann := .l
def pk58 : List PK := []
def rk58 : List RK := [.c .bool 0]
noncomputable def rt58 (st : St) : Option R58 := rtG rk58 st
noncomputable def E58 (n : Nat × Nat) : Env := { T := tabL, phi := (consPhi 16 (fun _ => true) (P16 n) (consPhi 69 (fun _ => true) (P69 n) (consPhi 70 (fun _ => true) (P70 n) noPhi))), eff := fun g => Nat.beq g 69, fuel := n.1, hold := n.2 }
noncomputable def S58 (n : Nat × Nat) : Option R58 := run (E58 n) c58 an58 rt58 (fun _ _ => none) rt58 { tm := [uu, uu, uu, uu, uu, uu, uu, uu, uu, uu, uu, uu, uu, uu, uu, uu, uu, uu, uu, uu, uu, uu], hp := emp }
theorem S58_eq (n : Nat × Nat) : S58 n =
 (S69 n (3, [(0, 1), (1, 2)])).bind fun r1' =>
 ((bif ((r1'.2 == 0) == true) then (S16 n r1'.1 [0, 2]).bind fun r2' =>
 some r2'
 else some false)).bind fun b3' =>
 ((bif (b3' == true) then (S70 n).bind fun r4' =>
 some r4'
 else some false)).bind fun b5' =>
 some b5' := by kernel_rfl
theorem S58_run (n : Nat × Nat) (xs : pksDen pk58) : S58 n = runG (E58 n) noScope c58 an58 (rtG rk58) (fun _ _ => none) (rtG rk58) (st0 pk58 xs Tryz.f58.ntmps) := by kernel_rfl
noncomputable def P58 (n : Nat × Nat) := phiOf pk58 rk58 (fun xs => S58 n)
theorem call58 : CallOK Tryz.prog 58 := callOK_of Tryz.func58 (by kernel_rfl) (by kernel_rfl)
theorem env58 (n : Nat × Nat) : EnvOK Tryz.prog (E58 n) := envOK0 (consPhi_ok (FC16 n) call16 (consPhi_ok (FC69 n) call69 (consPhi_ok (FC70 n) call70 noPhi_ok))) rfl rfl
theorem par58 (n : Nat × Nat) : EnvPar (E58 n) := envPar0 (consPhi_par phiOf_Par1 (consPhi_par phiOf_Par1 (consPhi_par phiOf_Par1 noPhi_par))) rfl
theorem FC58 (n : Nat × Nat) : FCs Tryz.prog 58 (P58 n) := phiOf_FCs fun xs r h vs hv => FC.of_runG tabLOK eqsLOK (env58 n) (par58 n) mixed (fun _ p _ => noScope_ok p.1 p.2) Tryz.func58 (c := c58) (an := an58) (pks := pk58) (rks := rk58) (by kernel_rfl) (by kernel_rfl) hv ((S58_run n xs).symm.trans h)
abbrev R49 := Bool
noncomputable def c49 : Code := bodyOf Tryz.f49
noncomputable def an49 : Ann := .l
def pk49 : List PK := []
def rk49 : List RK := [.c .bool 0]
noncomputable def rt49 (st : St) : Option R49 := rtG rk49 st
noncomputable def E49 (n : Nat × Nat) : Env := { T := tabL, phi := (consPhi 16 (fun _ => true) (P16 n) (consPhi 57 (fun _ => true) (P57 n) (consPhi 58 (fun _ => true) (P58 n) noPhi))), eff := fun _ => false, fuel := n.1, hold := n.2 }
noncomputable def S49 (n : Nat × Nat) : Option R49 := run (E49 n) c49 an49 rt49 (fun _ _ => none) rt49 { tm := [uu, uu, uu, uu, uu, uu, uu, uu, uu, uu, uu, uu, uu, uu, uu, uu, uu, uu, uu, uu, uu, uu, uu], hp := emp }
theorem S49_eq (n : Nat × Nat) : S49 n =
 (S57 n (3, [(0, 1), (0, 2), (1, 2)])).bind fun r1' =>
 ((bif ((r1'.2 == 0) == true) then (S16 n r1'.1 [0, 1]).bind fun r2' =>
 some r2'
 else some false)).bind fun b3' =>
 ((bif (b3' == true) then (S58 n).bind fun r4' =>
 some r4'
 else some false)).bind fun b5' =>
 some b5' := by kernel_rfl
theorem S49_run (n : Nat × Nat) (xs : pksDen pk49) : S49 n = runG (E49 n) noScope c49 an49 (rtG rk49) (fun _ _ => none) (rtG rk49) (st0 pk49 xs Tryz.f49.ntmps) := by kernel_rfl
noncomputable def P49 (n : Nat × Nat) := phiOf pk49 rk49 (fun xs => S49 n)
theorem call49 : CallOK Tryz.prog 49 := callOK_of Tryz.func49 (by kernel_rfl) (by kernel_rfl)
theorem env49 (n : Nat × Nat) : EnvOK Tryz.prog (E49 n) := envOK0 (consPhi_ok (FC16 n) call16 (consPhi_ok (FC57 n) call57 (consPhi_ok (FC58 n) call58 noPhi_ok))) rfl rfl
theorem par49 (n : Nat × Nat) : EnvPar (E49 n) := envPar0 (consPhi_par phiOf_Par1 (consPhi_par phiOf_Par1 (consPhi_par phiOf_Par1 noPhi_par))) rfl
theorem FC49 (n : Nat × Nat) : FCs Tryz.prog 49 (P49 n) := phiOf_FCs fun xs r h vs hv => FC.of_runG tabLOK eqsLOK (env49 n) (par49 n) mixed (fun _ p _ => noScope_ok p.1 p.2) Tryz.func49 (c := c49) (an := an49) (pks := pk49) (rks := rk49) (by kernel_rfl) (by kernel_rfl) hv ((S49_run n xs).symm.trans h)
abbrev R41 := Bool
noncomputable def c41 : Code := bodyOf Tryz.f41
noncomputable def an41 : Ann := .l
def pk41 : List PK := []
def rk41 : List RK := [.c .bool 0]
noncomputable def rt41 (st : St) : Option R41 := rtG rk41 st
noncomputable def E41 (n : Nat × Nat) : Env := { T := tabL, phi := (consPhi 48 (fun _ => true) (P48 n) (consPhi 49 (fun _ => true) (P49 n) noPhi)), eff := fun _ => false, fuel := n.1, hold := n.2 }
noncomputable def S41 (n : Nat × Nat) : Option R41 := run (E41 n) c41 an41 rt41 (fun _ _ => none) rt41 { tm := [uu, uu, uu, uu, uu, uu, uu, uu, uu, uu, uu, uu, uu, uu, uu, uu, uu, uu, uu], hp := emp }
theorem S41_eq (n : Nat × Nat) : S41 n =
 (S48 n (2, [0, 1, 2, 0, 1])).bind fun r1' =>
 ((bif ((r1'.2 == 0) == true) then some (r1'.1 == 4)
 else some false)).bind fun b2' =>
 ((bif (b2' == true) then (S49 n).bind fun r3' =>
 some r3'
 else some false)).bind fun b4' =>
 some b4' := by kernel_rfl
theorem S41_run (n : Nat × Nat) (xs : pksDen pk41) : S41 n = runG (E41 n) noScope c41 an41 (rtG rk41) (fun _ _ => none) (rtG rk41) (st0 pk41 xs Tryz.f41.ntmps) := by kernel_rfl
noncomputable def P41 (n : Nat × Nat) := phiOf pk41 rk41 (fun xs => S41 n)
theorem call41 : CallOK Tryz.prog 41 := callOK_of Tryz.func41 (by kernel_rfl) (by kernel_rfl)
theorem env41 (n : Nat × Nat) : EnvOK Tryz.prog (E41 n) := envOK0 (consPhi_ok (FC48 n) call48 (consPhi_ok (FC49 n) call49 noPhi_ok)) rfl rfl
theorem par41 (n : Nat × Nat) : EnvPar (E41 n) := envPar0 (consPhi_par phiOf_Par1 (consPhi_par phiOf_Par1 noPhi_par)) rfl
theorem FC41 (n : Nat × Nat) : FCs Tryz.prog 41 (P41 n) := phiOf_FCs fun xs r h vs hv => FC.of_runG tabLOK eqsLOK (env41 n) (par41 n) mixed (fun _ p _ => noScope_ok p.1 p.2) Tryz.func41 (c := c41) (an := an41) (pks := pk41) (rks := rk41) (by kernel_rfl) (by kernel_rfl) hv ((S41_run n xs).symm.trans h)
abbrev R26 := Bool
noncomputable def c26 : Code := bodyOf Tryz.f26
noncomputable def an26 : Ann := .l
def pk26 : List PK := []
def rk26 : List RK := [.c .bool 0]
noncomputable def rt26 (st : St) : Option R26 := rtG rk26 st
noncomputable def E26 (n : Nat × Nat) : Env := { T := tab, phi := (consPhi 16 (fun _ => true) (P16 n) (consPhi 40 (fun _ => true) (P40 n) (consPhi 41 (fun _ => true) (P41 n) noPhi))), eff := fun _ => false, fuel := n.1, hold := n.2 }
noncomputable def S26 (n : Nat × Nat) : Option R26 := run (E26 n) c26 an26 rt26 (fun _ _ => none) rt26 { tm := [uu, uu, uu, uu, uu, uu, uu, uu, uu, uu, uu, uu, uu, uu, uu, uu, uu, uu, uu, uu, uu, uu], hp := emp }
theorem S26_eq (n : Nat × Nat) : S26 n =
 (S40 n [(3, 1), (1, 1), (2, 1)]).bind fun r1' =>
 ((bif ((r1'.2 == 0) == true) then (S16 n r1'.1 [0]).bind fun r2' =>
 some r2'
 else some false)).bind fun b3' =>
 ((bif (b3' == true) then (S41 n).bind fun r4' =>
 some r4'
 else some false)).bind fun b5' =>
 some b5' := by kernel_rfl
theorem S26_run (n : Nat × Nat) (xs : pksDen pk26) : S26 n = runG (E26 n) noScope c26 an26 (rtG rk26) (fun _ _ => none) (rtG rk26) (st0 pk26 xs Tryz.f26.ntmps) := by kernel_rfl
noncomputable def P26 (n : Nat × Nat) := phiOf pk26 rk26 (fun xs => S26 n)
theorem call26 : CallOK Tryz.prog 26 := callOK_of Tryz.func26 (by kernel_rfl) (by kernel_rfl)
theorem env26 (n : Nat × Nat) : EnvOK Tryz.prog (E26 n) := envOK0 (consPhi_ok (FC16 n) call16 (consPhi_ok (FC40 n) call40 (consPhi_ok (FC41 n) call41 noPhi_ok))) rfl rfl
theorem par26 (n : Nat × Nat) : EnvPar (E26 n) := envPar0 (consPhi_par phiOf_Par1 (consPhi_par phiOf_Par1 (consPhi_par phiOf_Par1 noPhi_par))) rfl
theorem FC26 (n : Nat × Nat) : FCs Tryz.prog 26 (P26 n) := phiOf_FCs fun xs r h vs hv => FC.of_runG tabOK eqsOK (env26 n) (par26 n) mixed (fun _ p _ => noScope_ok p.1 p.2) Tryz.func26 (c := c26) (an := an26) (pks := pk26) (rks := rk26) (by kernel_rfl) (by kernel_rfl) hv ((S26_run n xs).symm.trans h)
abbrev R11 := Bool
noncomputable def c11 : Code := bodyOf Tryz.f11
noncomputable def an11 : Ann := .l
def pk11 : List PK := []
def rk11 : List RK := [.c .bool 0]
noncomputable def rt11 (st : St) : Option R11 := rtG rk11 st
noncomputable def E11 (n : Nat × Nat) : Env := { T := tabL, phi := (consPhi 25 (fun _ => true) (P25 n) (consPhi 26 (fun _ => true) (P26 n) noPhi)), eff := fun _ => false, fuel := n.1, hold := n.2 }
noncomputable def S11 (n : Nat × Nat) : Option R11 := run (E11 n) c11 an11 rt11 (fun _ _ => none) rt11 { tm := [uu, uu, uu, uu, uu, uu, uu, uu, uu, uu, uu, uu, uu, uu, uu, uu, uu, uu, uu, uu, uu], hp := emp }
theorem S11_eq (n : Nat × Nat) : S11 n =
 (S25 n ([(1, 3), (1, 4), (1, 2)], 7, 0) 2).bind fun r1' =>
 ((bif ((r1'.2 == 0) == true) then some (r1'.1 == 6)
 else some false)).bind fun b2' =>
 ((bif (b2' == true) then (S26 n).bind fun r3' =>
 some r3'
 else some false)).bind fun b4' =>
 some b4' := by kernel_rfl
theorem S11_run (n : Nat × Nat) (xs : pksDen pk11) : S11 n = runG (E11 n) noScope c11 an11 (rtG rk11) (fun _ _ => none) (rtG rk11) (st0 pk11 xs Tryz.f11.ntmps) := by kernel_rfl
noncomputable def P11 (n : Nat × Nat) := phiOf pk11 rk11 (fun xs => S11 n)
theorem call11 : CallOK Tryz.prog 11 := callOK_of Tryz.func11 (by kernel_rfl) (by kernel_rfl)
theorem env11 (n : Nat × Nat) : EnvOK Tryz.prog (E11 n) := envOK0 (consPhi_ok (FC25 n) call25 (consPhi_ok (FC26 n) call26 noPhi_ok)) rfl rfl
theorem par11 (n : Nat × Nat) : EnvPar (E11 n) := envPar0 (consPhi_par phiOf_Par1 (consPhi_par phiOf_Par1 noPhi_par)) rfl
theorem FC11 (n : Nat × Nat) : FCs Tryz.prog 11 (P11 n) := phiOf_FCs fun xs r h vs hv => FC.of_runG tabLOK eqsLOK (env11 n) (par11 n) mixed (fun _ p _ => noScope_ok p.1 p.2) Tryz.func11 (c := c11) (an := an11) (pks := pk11) (rks := rk11) (by kernel_rfl) (by kernel_rfl) hv ((S11_run n xs).symm.trans h)
abbrev R17 := Bool
noncomputable def c17 : Code := bodyOf Tryz.f17
noncomputable def an17 : Ann := .l
def pk17 : List PK := []
def rk17 : List RK := [.c .bool 0]
noncomputable def rt17 (st : St) : Option R17 := rtG rk17 st
noncomputable def E17 (n : Nat × Nat) : Env := { T := tab, phi := (consPhi 11 (fun _ => true) (P11 n) (consPhi 13 (fun _ => true) (P13 n) (consPhi 16 (fun _ => true) (P16 n) noPhi))), eff := fun _ => false, fuel := n.1, hold := n.2 }
noncomputable def S17 (n : Nat × Nat) : Option R17 := run (E17 n) c17 an17 rt17 (fun _ _ => none) rt17 { tm := [uu, uu, uu, uu, uu, uu, uu, uu, uu, uu, uu, uu, uu, uu, uu, uu, uu, uu, uu, uu], hp := emp }
theorem S17_eq (n : Nat × Nat) : S17 n =
 (S13 n [1, 3, 4] 6).bind fun r1' =>
 ((bif ((r1'.2 == 0) == true) then (S16 n r1'.1 [0, 2, 0]).bind fun r2' =>
 some r2'
 else some false)).bind fun b3' =>
 ((bif (b3' == true) then (S11 n).bind fun r4' =>
 some r4'
 else some false)).bind fun b5' =>
 some b5' := by kernel_rfl
theorem S17_run (n : Nat × Nat) (xs : pksDen pk17) : S17 n = runG (E17 n) noScope c17 an17 (rtG rk17) (fun _ _ => none) (rtG rk17) (st0 pk17 xs Tryz.f17.ntmps) := by kernel_rfl
noncomputable def P17 (n : Nat × Nat) := phiOf pk17 rk17 (fun xs => S17 n)
theorem call17 : CallOK Tryz.prog 17 := callOK_of Tryz.func17 (by kernel_rfl) (by kernel_rfl)
theorem env17 (n : Nat × Nat) : EnvOK Tryz.prog (E17 n) := envOK0 (consPhi_ok (FC11 n) call11 (consPhi_ok (FC13 n) call13 (consPhi_ok (FC16 n) call16 noPhi_ok))) rfl rfl
theorem par17 (n : Nat × Nat) : EnvPar (E17 n) := envPar0 (consPhi_par phiOf_Par1 (consPhi_par phiOf_Par1 (consPhi_par phiOf_Par1 noPhi_par))) rfl
theorem FC17 (n : Nat × Nat) : FCs Tryz.prog 17 (P17 n) := phiOf_FCs fun xs r h vs hv => FC.of_runG tabOK eqsOK (env17 n) (par17 n) mixed (fun _ p _ => noScope_ok p.1 p.2) Tryz.func17 (c := c17) (an := an17) (pks := pk17) (rks := rk17) (by kernel_rfl) (by kernel_rfl) hv ((S17_run n xs).symm.trans h)
abbrev R4 := Bool
noncomputable def c4 : Code := bodyOf Tryz.f4
noncomputable def an4 : Ann := (.s .l (.s .l (.s .l (.s .l (.s .l (.s .l (.s .l (.s .l (.s .l (.s (.s .l (.j [5, 6, 7, 12, 16, 124, 125, 156, 157, 158, 159, 160, 161, 162, 163, 166] .l .l)) (.s .l (.s (.s .l (.j [6, 7, 16, 18, 156, 157, 158, 159, 160, 161, 162, 163, 166] (.j [5, 6, 7, 16, 18, 114, 115, 116, 124, 125, 156, 157, 158, 159, 160, 161, 162, 163, 166] (.s .l (.s (.j [5, 6, 7, 16, 18, 114, 115, 116, 124, 125, 156, 157, 158, 159, 160, 161, 162, 163, 166] .l .l) (.s (.j [5, 6, 7, 16, 18, 114, 115, 116, 124, 125, 156, 157, 158, 159, 160, 161, 162, 163, 166] (.s .l (.s (.s .l (.j [5, 6, 7, 16, 18, 19, 20, 114, 115, 116, 124, 125, 156, 157, 158, 159, 160, 161, 162, 163, 166] .l .l)) (.s .l (.j [5, 6, 7, 16, 18, 114, 115, 116, 124, 125, 156, 157, 158, 159, 160, 161, 162, 163, 166] (.j [5, 6, 7, 16, 18, 19, 114, 115, 116, 124, 125, 127, 128, 156, 157, 158, 159, 160, 161, 162, 163, 166] (.s .l (.s (.j [5, 6, 7, 16, 18, 19, 114, 115, 116, 124, 125, 127, 128, 156, 157, 158, 159, 160, 161, 162, 163, 166] .l .l) (.s (.j [5, 6, 7, 16, 18, 19, 114, 115, 116, 124, 125, 127, 128, 156, 157, 158, 159, 160, 161, 162, 163, 166] .l .l) .l))) .l) .l)))) .l) .l))) .l) .l)) (.s (.s .l (.j [6, 7, 18, 156, 157, 158, 159, 160, 161, 162, 163, 166] .l .l)) (.s (.s .l (.j [6, 7, 18, 156, 157, 158, 159, 160, 161, 162, 163, 166] .l .l)) .l))))))))))))))
def pk4 : List PK := [.c (.int .u8), .c (.int .u8)]
def rk4 : List RK := [.c .bool 4]
noncomputable def rt4 (st : St) : Option R4 := rtG rk4 st
noncomputable def E4 (n : Nat × Nat) : Env := { T := tabL, phi := (consPhi 8 (fun _ => true) (P8 n) (consPhi 9 (fun _ => true) (P9 n) (consPhi 12 (fun _ => true) (P12 n) (consPhi 13 (fun _ => true) (P13 n) (consPhi 14 (fun _ => true) (P14 n) (consPhi 15 (fun _ => true) (P15 n) (consPhi 16 (fun _ => true) (P16 n) (consPhi 17 (fun _ => true) (P17 n) noPhi)))))))), eff := fun _ => false, fuel := n.1, hold := n.2 }
noncomputable def kq4_3 (n : Nat × Nat) : St → Option R4 := run (E4 n) (cB (cB (cB (cB (cB (cB (cB (cB (cB (cB (cB (cB c4)))))))))))) (Ann.snd (Ann.snd (Ann.snd (Ann.snd (Ann.snd (Ann.snd (Ann.snd (Ann.snd (Ann.snd (Ann.snd (Ann.snd (Ann.snd an4)))))))))))) rt4 (fun _ _ => none) rt4
noncomputable def xb4_5 (n : Nat × Nat) : Nat → St → Option R4 := fun j s => bif Nat.beq j 0 then normC [6, 7, 16, 18, 156, 157, 158, 159, 160, 161, 162, 163, 166] s (kq4_3 n) else (fun _ _ => none) j s
noncomputable def F4_6 (n : Nat × Nat) : (St → Option R4) → St → Option R4 := fun K s => run (E4 n) (cA (cA (cB (cA (cB (cB (cB (cB (cB (cB (cB (cB (cB (cB (cB c4))))))))))))))) (Ann.fst (Ann.fst (Ann.snd (Ann.fst (Ann.snd (Ann.snd (Ann.snd (Ann.snd (Ann.snd (Ann.snd (Ann.snd (Ann.snd (Ann.snd (Ann.snd (Ann.snd an4))))))))))))))) (fun s => normC [5, 6, 7, 16, 18, 114, 115, 116, 124, 125, 156, 157, 158, 159, 160, 161, 162, 163, 166] s K) (xb4_5 n) rt4 s
noncomputable def kq4_9 (n : Nat × Nat) (m1 : Nat) : St → Option R4 := run (E4 n) (cB (cB (cB (cA (cA (cB (cA (cB (cB (cB (cB (cB (cB (cB (cB (cB (cB (cB c4)))))))))))))))))) (Ann.snd (Ann.snd (Ann.snd (Ann.fst (Ann.fst (Ann.snd (Ann.fst (Ann.snd (Ann.snd (Ann.snd (Ann.snd (Ann.snd (Ann.snd (Ann.snd (Ann.snd (Ann.snd (Ann.snd (Ann.snd an4)))))))))))))))))) (fun s => normC [5, 6, 7, 16, 18, 114, 115, 116, 124, 125, 156, 157, 158, 159, 160, 161, 162, 163, 166] s (loopN (F4_6 n) m1)) (xb4_5 n) rt4
noncomputable def kc4_10 (n : Nat × Nat) (m1 : Nat) : St → Option R4 := fun s => normC [5, 6, 7, 16, 18, 114, 115, 116, 124, 125, 156, 157, 158, 159, 160, 161, 162, 163, 166] s (kq4_9 n m1)
noncomputable def xb4_11 (n : Nat × Nat) (m1 : Nat) : Nat → St → Option R4 := fun j s => bif Nat.beq j 1 then normC [5, 6, 7, 16, 18, 114, 115, 116, 124, 125, 156, 157, 158, 159, 160, 161, 162, 163, 166] s (kq4_9 n m1) else (xb4_5 n) j s
noncomputable def xb4_15 (n : Nat × Nat) (m1 : Nat) : Nat → St → Option R4 := fun j s => bif Nat.beq j 2 then normC [5, 6, 7, 16, 18, 114, 115, 116, 124, 125, 156, 157, 158, 159, 160, 161, 162, 163, 166] s (kc4_10 n m1) else (xb4_11 n m1) j s
noncomputable def F4_16 (n : Nat × Nat) (m1 : Nat) : (St → Option R4) → St → Option R4 := fun K s => run (E4 n) (cA (cA (cB (cB (cB (cA (cA (cB (cB (cA (cA (cB (cA (cB (cB (cB (cB (cB (cB (cB (cB (cB (cB (cB c4)))))))))))))))))))))))) (Ann.fst (Ann.fst (Ann.snd (Ann.snd (Ann.snd (Ann.fst (Ann.fst (Ann.snd (Ann.snd (Ann.fst (Ann.fst (Ann.snd (Ann.fst (Ann.snd (Ann.snd (Ann.snd (Ann.snd (Ann.snd (Ann.snd (Ann.snd (Ann.snd (Ann.snd (Ann.snd (Ann.snd an4)))))))))))))))))))))))) (fun s => normC [5, 6, 7, 16, 18, 19, 114, 115, 116, 124, 125, 127, 128, 156, 157, 158, 159, 160, 161, 162, 163, 166] s K) (xb4_15 n m1) rt4 s
noncomputable def L4_1 (n : Nat × Nat) (m : Nat) (coins5 : List Int) (size6 : Int) (s7 : Int) (v16 : Int) (v115 : Int) (v116 : Int) (pieces18 : List Int) (v114 : List Int) : Option R4 := loopN (F4_6 n) m { tm := [uu, uu, uu, uu, uu, .c (.sl (.int .i64) coins5 false), .c (.int .i64 size6), .c (.int .i64 s7), uu, uu, uu, uu, uu, uu, uu, uu, .c (.int .i64 v16), uu, .own 18 none false, uu, uu, uu, uu, uu, uu, uu, uu, uu, uu, uu, uu, uu, uu, uu, uu, uu, uu, uu, uu, uu, uu, uu, uu, uu, uu, uu, uu, uu, uu, uu, uu, uu, uu, uu, uu, uu, uu, uu, uu, uu, uu, uu, uu, uu, uu, uu, uu, uu, uu, uu, uu, uu, uu, uu, uu, uu, uu, uu, uu, uu, uu, uu, uu, uu, uu, uu, uu, uu, uu, uu, uu, uu, uu, uu, uu, uu, uu, uu, uu, uu, uu, uu, uu, uu, uu, uu, uu, uu, uu, uu, uu, uu, uu, uu, .own 114 none false, .c (.int .i64 v115), .c (.int .i64 v116), uu, uu, uu, uu, uu, uu, uu, uu, uu, uu, uu, uu, uu, uu, uu, uu, uu, uu, uu, uu, uu, uu, uu, uu, uu, uu, uu, uu, uu, uu, uu, uu, uu, uu, uu, uu, uu, uu, uu, uu, uu, uu, uu, uu, uu, uu, uu, uu, uu, uu, uu], hp := (upd (upd emp 114 (.arr (.int .i64) v114 false)) 18 (.arr (.int .i64) pieces18 false)) }
noncomputable def L4_2 (n : Nat × Nat) (m1 : Nat) (m : Nat) (coins5 : List Int) (size6 : Int) (s7 : Int) (v16 : Int) (k19 : Int) (v115 : Int) (v116 : Int) (v127 : Int) (v128 : Int) (pieces18 : List Int) (v114 : List Int) : Option R4 := loopN (F4_16 n m1) m { tm := [uu, uu, uu, uu, uu, .c (.sl (.int .i64) coins5 false), .c (.int .i64 size6), .c (.int .i64 s7), uu, uu, uu, uu, uu, uu, uu, uu, .c (.int .i64 v16), uu, .own 18 none false, .c (.int .i64 k19), uu, uu, uu, uu, uu, uu, uu, uu, uu, uu, uu, uu, uu, uu, uu, uu, uu, uu, uu, uu, uu, uu, uu, uu, uu, uu, uu, uu, uu, uu, uu, uu, uu, uu, uu, uu, uu, uu, uu, uu, uu, uu, uu, uu, uu, uu, uu, uu, uu, uu, uu, uu, uu, uu, uu, uu, uu, uu, uu, uu, uu, uu, uu, uu, uu, uu, uu, uu, uu, uu, uu, uu, uu, uu, uu, uu, uu, uu, uu, uu, uu, uu, uu, uu, uu, uu, uu, uu, uu, uu, uu, uu, uu, uu, .own 114 none false, .c (.int .i64 v115), .c (.int .i64 v116), uu, uu, uu, uu, uu, uu, uu, uu, uu, uu, .c (.int .i64 v127), .c (.int .i64 v128), uu, uu, uu, uu, uu, uu, uu, uu, uu, uu, uu, uu, uu, uu, uu, uu, uu, uu, uu, uu, uu, uu, uu, uu, uu, uu, uu, uu, uu, uu, uu, uu, uu, uu, uu, uu, uu, uu, uu], hp := (upd (upd emp 114 (.arr (.int .i64) v114 false)) 18 (.arr (.int .i64) pieces18 false)) }
theorem L4_1_eq (n : Nat × Nat) (m1 : Nat) (coins5 : List Int) (size6 : Int) (s7 : Int) (v16 : Int) (v115 : Int) (v116 : Int) (pieces18 : List Int) (v114 : List Int) : L4_1 n (m1 + 1) coins5 size6 s7 v16 v115 v116 pieces18 v114 =
 (bif decide (v116 < v115) then (bif inB v116 v114.length then (idx v114 v116).bind fun x17' =>
 ((bif (decide (x17' < 0) == false) then some (decide (x17' > 100))
 else some true)).bind fun b18' =>
 (bif b18' then some false
 else L4_2 n m1 n.1 coins5 size6 s7 v16 v116 v115 v116 x17' 0 pieces18 v114)
 else none)
 else (bif ((pieces18.length : Int) != v16) then some false
 else (bif decide ((pieces18.length : Int) > 8) then (S17 n).bind fun r19' =>
 some r19'
 else (S8 n size6 pieces18).bind fun r20' =>
 ((bif ((r20'.2 == 0) == true) then (bif size6 == 0 then none
 else some (r20'.1 == (wr .i64 (Int.tdiv (wr .i64 ((wr .i64 (s7 + size6)) - 1)) size6))))
 else some false)).bind fun b21' =>
 ((bif (b21' == true) then (S17 n).bind fun r22' =>
 some r22'
 else some false)).bind fun b23' =>
 some b23'))) := by kernel_rfl
theorem L4_2_eq (n : Nat × Nat) (m1 m2 : Nat) (coins5 : List Int) (size6 : Int) (s7 : Int) (v16 : Int) (k19 : Int) (v115 : Int) (v116 : Int) (v127 : Int) (v128 : Int) (pieces18 : List Int) (v114 : List Int) : L4_2 n m1 (m2 + 1) coins5 size6 s7 v16 k19 v115 v116 v127 v128 pieces18 v114 =
 (bif decide (v128 < v127) then (idx coins5 k19).bind fun x24' =>
 (bif decide (pieces18.length + [x24'].length ≤ lim) then L4_2 n m1 m2 coins5 size6 s7 v16 k19 v115 v116 v127 (wr .i64 (v128 + 1)) (pieces18 ++ [x24']) v114
 else none)
 else L4_1 n m1 coins5 size6 s7 v16 v115 (wr .i64 (v116 + 1)) pieces18 v114) := by kernel_rfl
noncomputable def S4 (n : Nat × Nat) (kind0 : Int) (sum1 : Int) : Option R4 := run (E4 n) c4 an4 rt4 (fun _ _ => none) rt4 { tm := [.c (.int .u8 kind0), .c (.int .u8 sum1), uu, uu, uu, uu, uu, uu, uu, uu, uu, uu, uu, uu, uu, uu, uu, uu, uu, uu, uu, uu, uu, uu, uu, uu, uu, uu, uu, uu, uu, uu, uu, uu, uu, uu, uu, uu, uu, uu, uu, uu, uu, uu, uu, uu, uu, uu, uu, uu, uu, uu, uu, uu, uu, uu, uu, uu, uu, uu, uu, uu, uu, uu, uu, uu, uu, uu, uu, uu, uu, uu, uu, uu, uu, uu, uu, uu, uu, uu, uu, uu, uu, uu, uu, uu, uu, uu, uu, uu, uu, uu, uu, uu, uu, uu, uu, uu, uu, uu, uu, uu, uu, uu, uu, uu, uu, uu, uu, uu, uu, uu, uu, uu, uu, uu, uu, uu, uu, uu, uu, uu, uu, uu, uu, uu, uu, uu, uu, uu, uu, uu, uu, uu, uu, uu, uu, uu, uu, uu, uu, uu, uu, uu, uu, uu, uu, uu, uu, uu, uu, uu, uu, uu, uu, uu, uu, uu, uu, uu, uu, uu, uu, uu, uu, uu, uu, uu], hp := emp }
theorem S4_eq (n : Nat × Nat) (kind0 : Int) (sum1 : Int) : S4 n kind0 sum1 =
 (bif 8 == 0 then none
 else (bif inB (Int.tmod kind0 8) ([[1, 2, 4, 8], [1, 3, 6, 24], [1, 2, 6, 12], [1, 4, 20], [1, 5, 10, 20], [1, 2, 4, 12, 24], [1], [1, 7, 21]]).length then (idx ([[1, 2, 4, 8], [1, 3, 6, 24], [1, 2, 6, 12], [1, 4, 20], [1, 5, 10, 20], [1, 2, 4, 12, 24], [1], [1, 7, 21]]) (Int.tmod kind0 8)).bind fun x1' =>
 (idx x1' (wr .i64 ((x1'.length : Int) - 1))).bind fun x2' =>
 (bif (wr .i64 (3 * x2')) == 0 then none
 else (S9 n x2' x1').bind fun r3' =>
 (S12 n x1').bind fun r4' =>
 (S13 n x1' (Int.tmod (wr .i64 sum1) (wr .i64 (3 * x2')))).bind fun r5' =>
 (S14 n x1' (Int.tmod (wr .i64 sum1) (wr .i64 (3 * x2')))).bind fun r6' =>
 (S15 n x1' (Int.tmod (wr .i64 sum1) (wr .i64 (3 * x2')))).bind fun r7' =>
 ((bif ((r3'.2 != 0) == false) then some (r4'.2 != 0)
 else some true)).bind fun b8' =>
 ((bif (b8' == false) then some (r5'.2 != 0)
 else some true)).bind fun b9' =>
 ((bif (b9' == false) then some (r6'.2 != 0)
 else some true)).bind fun b10' =>
 ((bif (b10' == false) then some (r7'.2 != 0)
 else some true)).bind fun b11' =>
 ((bif (b11' == false) then some (!r3'.1)
 else some true)).bind fun b12' =>
 ((bif (b12' == false) then some (!r4'.1)
 else some true)).bind fun b13' =>
 ((bif (b13' == false) then (S16 n r5'.1 r6'.1).bind fun r14' =>
 some (!r14')
 else some true)).bind fun b15' =>
 ((bif (b15' == false) then some ((r5'.1.length : Int) != (x1'.length : Int))
 else some true)).bind fun b16' =>
 (bif b16' then some false
 else L4_1 n n.1 x1' x2' (Int.tmod (wr .i64 sum1) (wr .i64 (3 * x2'))) r7'.1 (r5'.1.length : Int) 0 [] r5'.1))
 else none)) := by kernel_rfl
theorem S4_run (n : Nat × Nat) (xs : pksDen pk4) : S4 n xs.1 xs.2.1 = runG (E4 n) noScope c4 an4 (rtG rk4) (fun _ _ => none) (rtG rk4) (st0 pk4 xs Tryz.f4.ntmps) := by kernel_rfl
noncomputable def P4 (n : Nat × Nat) := phiOf pk4 rk4 (fun xs => S4 n xs.1 xs.2.1)
theorem env4 (n : Nat × Nat) : EnvOK Tryz.prog (E4 n) := envOK0 (consPhi_ok (FC8 n) call8 (consPhi_ok (FC9 n) call9 (consPhi_ok (FC12 n) call12 (consPhi_ok (FC13 n) call13 (consPhi_ok (FC14 n) call14 (consPhi_ok (FC15 n) call15 (consPhi_ok (FC16 n) call16 (consPhi_ok (FC17 n) call17 noPhi_ok)))))))) rfl rfl
theorem par4 (n : Nat × Nat) : EnvPar (E4 n) := envPar0 (consPhi_par phiOf_Par1 (consPhi_par phiOf_Par1 (consPhi_par phiOf_Par1 (consPhi_par phiOf_Par1 (consPhi_par phiOf_Par1 (consPhi_par phiOf_Par1 (consPhi_par phiOf_Par1 (consPhi_par phiOf_Par1 noPhi_par)))))))) rfl
theorem FC4 (n : Nat × Nat) : FCs Tryz.prog 4 (P4 n) := phiOf_FCs fun xs r h vs hv => FC.of_runG tabLOK eqsLOK (env4 n) (par4 n) mixed (fun _ p _ => noScope_ok p.1 p.2) Tryz.func4 (c := c4) (an := an4) (pks := pk4) (rks := rk4) (by kernel_rfl) (by kernel_rfl) hv ((S4_run n xs).symm.trans h)
/-D 35 -/
noncomputable def D35 (n : Nat × Nat) (p0 : Int) (v1 : Int) : Option R35 :=
 ((bif (decide (p0 < 1) == false) then some (decide (p0 > v1))
 else some true)).bind fun b1' =>
 some b1'
theorem S35_D (n : Nat × Nat) (hn : n.2 = 1) : S35 n = D35 n := by
  funext p0 v1; refine (S35_eq n p0 v1).trans ?_
  unfold D35
  first | with_reducible rfl | rfl
/-D 43c35 -/
noncomputable def DF43c35_1 (n : Nat × Nat) (f1 : List Int → Int → Int → Int → Option R43c35) (s0 : List Int) (f1_0 : Int) (v7 : Int) (v8 : Int) : Option R43c35 :=
 (bif decide (v8 < v7) then (idx s0 v8).bind fun x1' =>
 (D35 n x1' f1_0).bind fun r2' =>
 (bif r2' then some v8
 else f1 s0 f1_0 v7 (wr .i64 (v8 + 1)))
 else some (-1))
noncomputable def DL43c35_1 (n : Nat × Nat) (m : Nat) : List Int → Int → Int → Int → Option R43c35 := Nat.rec (motive := fun _ => List Int → Int → Int → Int → Option R43c35) (fun _ _ _ _ => none) (fun _ ih => DF43c35_1 n ih) m
theorem DL43c35_1_succ (n : Nat × Nat) (m : Nat) : DL43c35_1 n (m + 1) = DF43c35_1 n (DL43c35_1 n m) := rfl
theorem DL43c35_1_eq (n : Nat × Nat) (hn : n.2 = 1) : ∀ m, L43c35_1 n m = DL43c35_1 n m
  | 0 => by funext s0 f1_0 v7 v8; kernel_rfl
  | m + 1 => by
    have ih := DL43c35_1_eq n hn m
    funext s0 f1_0 v7 v8; refine (L43c35_1_eq n m s0 f1_0 v7 v8).trans ?_
    rw [DL43c35_1_succ]
    unfold DF43c35_1
    (try simp only [ih, S35_D n hn]) <;> first | with_reducible rfl | rfl
noncomputable def D43c35 (n : Nat × Nat) (s0 : List Int) (cp_1_0 : Int) : Option R43c35 :=
    DL43c35_1 n n.1 s0 cp_1_0 (s0.length : Int) 0
theorem S43c35_D (n : Nat × Nat) (hn : n.2 = 1) : S43c35 n = D43c35 n := by
  funext s0 cp_1_0; refine (S43c35_eq n s0 cp_1_0).trans ?_
  unfold D43c35
  (try simp only [DL43c35_1_eq n hn, S35_D n hn]) <;> first | with_reducible rfl | rfl
/-D 34c35 -/
noncomputable def D34c35 (n : Nat × Nat) (s0 : List Int) (cp_1_0 : Int) : Option R34c35 :=
 (D43c35 n s0 cp_1_0).bind fun r1' =>
 some (decide (r1' ≥ 0))
theorem S34c35_D (n : Nat × Nat) (hn : n.2 = 1) : S34c35 n = D34c35 n := by
  funext s0 cp_1_0; refine (S34c35_eq n s0 cp_1_0).trans ?_
  unfold D34c35
  (try simp only [S43c35_D n hn]) <;> first | with_reducible rfl | rfl
end Go.Proofs.YtkfkbebinhkdlaaGreatDoor
