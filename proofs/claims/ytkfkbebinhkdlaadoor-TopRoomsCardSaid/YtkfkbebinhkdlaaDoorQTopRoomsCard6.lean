/- Texts of this claim, joined: D124 to G44. -/
import Derived.KernelRfl
import Derived.LoopTactic
import Derived.Test.YtkfkbebinhkdlaaDoorProg
import Derived.WalkKit
import Derived.Test.YtkfkbebinhkdlaaDoorQTopRoomsCard5
set_option linter.unusedVariables false
set_option linter.unusedSimpArgs false
set_option maxRecDepth 100000
namespace Go.Proofs.YtkfkbebinhkdlaaDoor
open Go.Vi
/-D 124 -/
noncomputable def D124 (n : Nat × Nat) (x0 : Int) : Option R124 :=
 (bif decide (1 < 0) then none
 else (bif decide (2 < 0) then none
 else (bif decide (4 < 0) then none
 else (bif decide (8 < 0) then none
 else (bif decide (16 < 0) then none
 else (bif decide (32 < 0) then none
 else some (wr .i64 (BitVec.ofInt (IntKind.bits .i64) (wr .i64 (wr .u64 ((wr .u64 ((wr .u64 ((wr .u64 (BitVec.ofInt (IntKind.bits .u64) (wr .u64 ((Int.fdiv (wr .u64 ((wr .u64 (BitVec.ofInt (IntKind.bits .u64) (Int.fdiv (wr .u64 ((wr .u64 (BitVec.ofInt (IntKind.bits .u64) (Int.fdiv x0 (2 ^ (min (Int.toNat 1) (IntKind.bits .u64)))) &&& BitVec.ofInt (IntKind.bits .u64) 6148914691236517205).toNat) + (wr .u64 (BitVec.ofInt (IntKind.bits .u64) x0 &&& BitVec.ofInt (IntKind.bits .u64) 6148914691236517205).toNat))) (2 ^ (min (Int.toNat 2) (IntKind.bits .u64)))) &&& BitVec.ofInt (IntKind.bits .u64) 3689348814741910323).toNat) + (wr .u64 (BitVec.ofInt (IntKind.bits .u64) (wr .u64 ((wr .u64 (BitVec.ofInt (IntKind.bits .u64) (Int.fdiv x0 (2 ^ (min (Int.toNat 1) (IntKind.bits .u64)))) &&& BitVec.ofInt (IntKind.bits .u64) 6148914691236517205).toNat) + (wr .u64 (BitVec.ofInt (IntKind.bits .u64) x0 &&& BitVec.ofInt (IntKind.bits .u64) 6148914691236517205).toNat))) &&& BitVec.ofInt (IntKind.bits .u64) 3689348814741910323).toNat))) (2 ^ (min (Int.toNat 4) (IntKind.bits .u64)))) + (wr .u64 ((wr .u64 (BitVec.ofInt (IntKind.bits .u64) (Int.fdiv (wr .u64 ((wr .u64 (BitVec.ofInt (IntKind.bits .u64) (Int.fdiv x0 (2 ^ (min (Int.toNat 1) (IntKind.bits .u64)))) &&& BitVec.ofInt (IntKind.bits .u64) 6148914691236517205).toNat) + (wr .u64 (BitVec.ofInt (IntKind.bits .u64) x0 &&& BitVec.ofInt (IntKind.bits .u64) 6148914691236517205).toNat))) (2 ^ (min (Int.toNat 2) (IntKind.bits .u64)))) &&& BitVec.ofInt (IntKind.bits .u64) 3689348814741910323).toNat) + (wr .u64 (BitVec.ofInt (IntKind.bits .u64) (wr .u64 ((wr .u64 (BitVec.ofInt (IntKind.bits .u64) (Int.fdiv x0 (2 ^ (min (Int.toNat 1) (IntKind.bits .u64)))) &&& BitVec.ofInt (IntKind.bits .u64) 6148914691236517205).toNat) + (wr .u64 (BitVec.ofInt (IntKind.bits .u64) x0 &&& BitVec.ofInt (IntKind.bits .u64) 6148914691236517205).toNat))) &&& BitVec.ofInt (IntKind.bits .u64) 3689348814741910323).toNat))))) &&& BitVec.ofInt (IntKind.bits .u64) 1085102592571150095).toNat) + (Int.fdiv (wr .u64 (BitVec.ofInt (IntKind.bits .u64) (wr .u64 ((Int.fdiv (wr .u64 ((wr .u64 (BitVec.ofInt (IntKind.bits .u64) (Int.fdiv (wr .u64 ((wr .u64 (BitVec.ofInt (IntKind.bits .u64) (Int.fdiv x0 (2 ^ (min (Int.toNat 1) (IntKind.bits .u64)))) &&& BitVec.ofInt (IntKind.bits .u64) 6148914691236517205).toNat) + (wr .u64 (BitVec.ofInt (IntKind.bits .u64) x0 &&& BitVec.ofInt (IntKind.bits .u64) 6148914691236517205).toNat))) (2 ^ (min (Int.toNat 2) (IntKind.bits .u64)))) &&& BitVec.ofInt (IntKind.bits .u64) 3689348814741910323).toNat) + (wr .u64 (BitVec.ofInt (IntKind.bits .u64) (wr .u64 ((wr .u64 (BitVec.ofInt (IntKind.bits .u64) (Int.fdiv x0 (2 ^ (min (Int.toNat 1) (IntKind.bits .u64)))) &&& BitVec.ofInt (IntKind.bits .u64) 6148914691236517205).toNat) + (wr .u64 (BitVec.ofInt (IntKind.bits .u64) x0 &&& BitVec.ofInt (IntKind.bits .u64) 6148914691236517205).toNat))) &&& BitVec.ofInt (IntKind.bits .u64) 3689348814741910323).toNat))) (2 ^ (min (Int.toNat 4) (IntKind.bits .u64)))) + (wr .u64 ((wr .u64 (BitVec.ofInt (IntKind.bits .u64) (Int.fdiv (wr .u64 ((wr .u64 (BitVec.ofInt (IntKind.bits .u64) (Int.fdiv x0 (2 ^ (min (Int.toNat 1) (IntKind.bits .u64)))) &&& BitVec.ofInt (IntKind.bits .u64) 6148914691236517205).toNat) + (wr .u64 (BitVec.ofInt (IntKind.bits .u64) x0 &&& BitVec.ofInt (IntKind.bits .u64) 6148914691236517205).toNat))) (2 ^ (min (Int.toNat 2) (IntKind.bits .u64)))) &&& BitVec.ofInt (IntKind.bits .u64) 3689348814741910323).toNat) + (wr .u64 (BitVec.ofInt (IntKind.bits .u64) (wr .u64 ((wr .u64 (BitVec.ofInt (IntKind.bits .u64) (Int.fdiv x0 (2 ^ (min (Int.toNat 1) (IntKind.bits .u64)))) &&& BitVec.ofInt (IntKind.bits .u64) 6148914691236517205).toNat) + (wr .u64 (BitVec.ofInt (IntKind.bits .u64) x0 &&& BitVec.ofInt (IntKind.bits .u64) 6148914691236517205).toNat))) &&& BitVec.ofInt (IntKind.bits .u64) 3689348814741910323).toNat))))) &&& BitVec.ofInt (IntKind.bits .u64) 1085102592571150095).toNat) (2 ^ (min (Int.toNat 8) (IntKind.bits .u64)))))) + (Int.fdiv (wr .u64 ((wr .u64 (BitVec.ofInt (IntKind.bits .u64) (wr .u64 ((Int.fdiv (wr .u64 ((wr .u64 (BitVec.ofInt (IntKind.bits .u64) (Int.fdiv (wr .u64 ((wr .u64 (BitVec.ofInt (IntKind.bits .u64) (Int.fdiv x0 (2 ^ (min (Int.toNat 1) (IntKind.bits .u64)))) &&& BitVec.ofInt (IntKind.bits .u64) 6148914691236517205).toNat) + (wr .u64 (BitVec.ofInt (IntKind.bits .u64) x0 &&& BitVec.ofInt (IntKind.bits .u64) 6148914691236517205).toNat))) (2 ^ (min (Int.toNat 2) (IntKind.bits .u64)))) &&& BitVec.ofInt (IntKind.bits .u64) 3689348814741910323).toNat) + (wr .u64 (BitVec.ofInt (IntKind.bits .u64) (wr .u64 ((wr .u64 (BitVec.ofInt (IntKind.bits .u64) (Int.fdiv x0 (2 ^ (min (Int.toNat 1) (IntKind.bits .u64)))) &&& BitVec.ofInt (IntKind.bits .u64) 6148914691236517205).toNat) + (wr .u64 (BitVec.ofInt (IntKind.bits .u64) x0 &&& BitVec.ofInt (IntKind.bits .u64) 6148914691236517205).toNat))) &&& BitVec.ofInt (IntKind.bits .u64) 3689348814741910323).toNat))) (2 ^ (min (Int.toNat 4) (IntKind.bits .u64)))) + (wr .u64 ((wr .u64 (BitVec.ofInt (IntKind.bits .u64) (Int.fdiv (wr .u64 ((wr .u64 (BitVec.ofInt (IntKind.bits .u64) (Int.fdiv x0 (2 ^ (min (Int.toNat 1) (IntKind.bits .u64)))) &&& BitVec.ofInt (IntKind.bits .u64) 6148914691236517205).toNat) + (wr .u64 (BitVec.ofInt (IntKind.bits .u64) x0 &&& BitVec.ofInt (IntKind.bits .u64) 6148914691236517205).toNat))) (2 ^ (min (Int.toNat 2) (IntKind.bits .u64)))) &&& BitVec.ofInt (IntKind.bits .u64) 3689348814741910323).toNat) + (wr .u64 (BitVec.ofInt (IntKind.bits .u64) (wr .u64 ((wr .u64 (BitVec.ofInt (IntKind.bits .u64) (Int.fdiv x0 (2 ^ (min (Int.toNat 1) (IntKind.bits .u64)))) &&& BitVec.ofInt (IntKind.bits .u64) 6148914691236517205).toNat) + (wr .u64 (BitVec.ofInt (IntKind.bits .u64) x0 &&& BitVec.ofInt (IntKind.bits .u64) 6148914691236517205).toNat))) &&& BitVec.ofInt (IntKind.bits .u64) 3689348814741910323).toNat))))) &&& BitVec.ofInt (IntKind.bits .u64) 1085102592571150095).toNat) + (Int.fdiv (wr .u64 (BitVec.ofInt (IntKind.bits .u64) (wr .u64 ((Int.fdiv (wr .u64 ((wr .u64 (BitVec.ofInt (IntKind.bits .u64) (Int.fdiv (wr .u64 ((wr .u64 (BitVec.ofInt (IntKind.bits .u64) (Int.fdiv x0 (2 ^ (min (Int.toNat 1) (IntKind.bits .u64)))) &&& BitVec.ofInt (IntKind.bits .u64) 6148914691236517205).toNat) + (wr .u64 (BitVec.ofInt (IntKind.bits .u64) x0 &&& BitVec.ofInt (IntKind.bits .u64) 6148914691236517205).toNat))) (2 ^ (min (Int.toNat 2) (IntKind.bits .u64)))) &&& BitVec.ofInt (IntKind.bits .u64) 3689348814741910323).toNat) + (wr .u64 (BitVec.ofInt (IntKind.bits .u64) (wr .u64 ((wr .u64 (BitVec.ofInt (IntKind.bits .u64) (Int.fdiv x0 (2 ^ (min (Int.toNat 1) (IntKind.bits .u64)))) &&& BitVec.ofInt (IntKind.bits .u64) 6148914691236517205).toNat) + (wr .u64 (BitVec.ofInt (IntKind.bits .u64) x0 &&& BitVec.ofInt (IntKind.bits .u64) 6148914691236517205).toNat))) &&& BitVec.ofInt (IntKind.bits .u64) 3689348814741910323).toNat))) (2 ^ (min (Int.toNat 4) (IntKind.bits .u64)))) + (wr .u64 ((wr .u64 (BitVec.ofInt (IntKind.bits .u64) (Int.fdiv (wr .u64 ((wr .u64 (BitVec.ofInt (IntKind.bits .u64) (Int.fdiv x0 (2 ^ (min (Int.toNat 1) (IntKind.bits .u64)))) &&& BitVec.ofInt (IntKind.bits .u64) 6148914691236517205).toNat) + (wr .u64 (BitVec.ofInt (IntKind.bits .u64) x0 &&& BitVec.ofInt (IntKind.bits .u64) 6148914691236517205).toNat))) (2 ^ (min (Int.toNat 2) (IntKind.bits .u64)))) &&& BitVec.ofInt (IntKind.bits .u64) 3689348814741910323).toNat) + (wr .u64 (BitVec.ofInt (IntKind.bits .u64) (wr .u64 ((wr .u64 (BitVec.ofInt (IntKind.bits .u64) (Int.fdiv x0 (2 ^ (min (Int.toNat 1) (IntKind.bits .u64)))) &&& BitVec.ofInt (IntKind.bits .u64) 6148914691236517205).toNat) + (wr .u64 (BitVec.ofInt (IntKind.bits .u64) x0 &&& BitVec.ofInt (IntKind.bits .u64) 6148914691236517205).toNat))) &&& BitVec.ofInt (IntKind.bits .u64) 3689348814741910323).toNat))))) &&& BitVec.ofInt (IntKind.bits .u64) 1085102592571150095).toNat) (2 ^ (min (Int.toNat 8) (IntKind.bits .u64)))))) (2 ^ (min (Int.toNat 16) (IntKind.bits .u64)))))) + (Int.fdiv (wr .u64 ((wr .u64 ((wr .u64 (BitVec.ofInt (IntKind.bits .u64) (wr .u64 ((Int.fdiv (wr .u64 ((wr .u64 (BitVec.ofInt (IntKind.bits .u64) (Int.fdiv (wr .u64 ((wr .u64 (BitVec.ofInt (IntKind.bits .u64) (Int.fdiv x0 (2 ^ (min (Int.toNat 1) (IntKind.bits .u64)))) &&& BitVec.ofInt (IntKind.bits .u64) 6148914691236517205).toNat) + (wr .u64 (BitVec.ofInt (IntKind.bits .u64) x0 &&& BitVec.ofInt (IntKind.bits .u64) 6148914691236517205).toNat))) (2 ^ (min (Int.toNat 2) (IntKind.bits .u64)))) &&& BitVec.ofInt (IntKind.bits .u64) 3689348814741910323).toNat) + (wr .u64 (BitVec.ofInt (IntKind.bits .u64) (wr .u64 ((wr .u64 (BitVec.ofInt (IntKind.bits .u64) (Int.fdiv x0 (2 ^ (min (Int.toNat 1) (IntKind.bits .u64)))) &&& BitVec.ofInt (IntKind.bits .u64) 6148914691236517205).toNat) + (wr .u64 (BitVec.ofInt (IntKind.bits .u64) x0 &&& BitVec.ofInt (IntKind.bits .u64) 6148914691236517205).toNat))) &&& BitVec.ofInt (IntKind.bits .u64) 3689348814741910323).toNat))) (2 ^ (min (Int.toNat 4) (IntKind.bits .u64)))) + (wr .u64 ((wr .u64 (BitVec.ofInt (IntKind.bits .u64) (Int.fdiv (wr .u64 ((wr .u64 (BitVec.ofInt (IntKind.bits .u64) (Int.fdiv x0 (2 ^ (min (Int.toNat 1) (IntKind.bits .u64)))) &&& BitVec.ofInt (IntKind.bits .u64) 6148914691236517205).toNat) + (wr .u64 (BitVec.ofInt (IntKind.bits .u64) x0 &&& BitVec.ofInt (IntKind.bits .u64) 6148914691236517205).toNat))) (2 ^ (min (Int.toNat 2) (IntKind.bits .u64)))) &&& BitVec.ofInt (IntKind.bits .u64) 3689348814741910323).toNat) + (wr .u64 (BitVec.ofInt (IntKind.bits .u64) (wr .u64 ((wr .u64 (BitVec.ofInt (IntKind.bits .u64) (Int.fdiv x0 (2 ^ (min (Int.toNat 1) (IntKind.bits .u64)))) &&& BitVec.ofInt (IntKind.bits .u64) 6148914691236517205).toNat) + (wr .u64 (BitVec.ofInt (IntKind.bits .u64) x0 &&& BitVec.ofInt (IntKind.bits .u64) 6148914691236517205).toNat))) &&& BitVec.ofInt (IntKind.bits .u64) 3689348814741910323).toNat))))) &&& BitVec.ofInt (IntKind.bits .u64) 1085102592571150095).toNat) + (Int.fdiv (wr .u64 (BitVec.ofInt (IntKind.bits .u64) (wr .u64 ((Int.fdiv (wr .u64 ((wr .u64 (BitVec.ofInt (IntKind.bits .u64) (Int.fdiv (wr .u64 ((wr .u64 (BitVec.ofInt (IntKind.bits .u64) (Int.fdiv x0 (2 ^ (min (Int.toNat 1) (IntKind.bits .u64)))) &&& BitVec.ofInt (IntKind.bits .u64) 6148914691236517205).toNat) + (wr .u64 (BitVec.ofInt (IntKind.bits .u64) x0 &&& BitVec.ofInt (IntKind.bits .u64) 6148914691236517205).toNat))) (2 ^ (min (Int.toNat 2) (IntKind.bits .u64)))) &&& BitVec.ofInt (IntKind.bits .u64) 3689348814741910323).toNat) + (wr .u64 (BitVec.ofInt (IntKind.bits .u64) (wr .u64 ((wr .u64 (BitVec.ofInt (IntKind.bits .u64) (Int.fdiv x0 (2 ^ (min (Int.toNat 1) (IntKind.bits .u64)))) &&& BitVec.ofInt (IntKind.bits .u64) 6148914691236517205).toNat) + (wr .u64 (BitVec.ofInt (IntKind.bits .u64) x0 &&& BitVec.ofInt (IntKind.bits .u64) 6148914691236517205).toNat))) &&& BitVec.ofInt (IntKind.bits .u64) 3689348814741910323).toNat))) (2 ^ (min (Int.toNat 4) (IntKind.bits .u64)))) + (wr .u64 ((wr .u64 (BitVec.ofInt (IntKind.bits .u64) (Int.fdiv (wr .u64 ((wr .u64 (BitVec.ofInt (IntKind.bits .u64) (Int.fdiv x0 (2 ^ (min (Int.toNat 1) (IntKind.bits .u64)))) &&& BitVec.ofInt (IntKind.bits .u64) 6148914691236517205).toNat) + (wr .u64 (BitVec.ofInt (IntKind.bits .u64) x0 &&& BitVec.ofInt (IntKind.bits .u64) 6148914691236517205).toNat))) (2 ^ (min (Int.toNat 2) (IntKind.bits .u64)))) &&& BitVec.ofInt (IntKind.bits .u64) 3689348814741910323).toNat) + (wr .u64 (BitVec.ofInt (IntKind.bits .u64) (wr .u64 ((wr .u64 (BitVec.ofInt (IntKind.bits .u64) (Int.fdiv x0 (2 ^ (min (Int.toNat 1) (IntKind.bits .u64)))) &&& BitVec.ofInt (IntKind.bits .u64) 6148914691236517205).toNat) + (wr .u64 (BitVec.ofInt (IntKind.bits .u64) x0 &&& BitVec.ofInt (IntKind.bits .u64) 6148914691236517205).toNat))) &&& BitVec.ofInt (IntKind.bits .u64) 3689348814741910323).toNat))))) &&& BitVec.ofInt (IntKind.bits .u64) 1085102592571150095).toNat) (2 ^ (min (Int.toNat 8) (IntKind.bits .u64)))))) + (Int.fdiv (wr .u64 ((wr .u64 (BitVec.ofInt (IntKind.bits .u64) (wr .u64 ((Int.fdiv (wr .u64 ((wr .u64 (BitVec.ofInt (IntKind.bits .u64) (Int.fdiv (wr .u64 ((wr .u64 (BitVec.ofInt (IntKind.bits .u64) (Int.fdiv x0 (2 ^ (min (Int.toNat 1) (IntKind.bits .u64)))) &&& BitVec.ofInt (IntKind.bits .u64) 6148914691236517205).toNat) + (wr .u64 (BitVec.ofInt (IntKind.bits .u64) x0 &&& BitVec.ofInt (IntKind.bits .u64) 6148914691236517205).toNat))) (2 ^ (min (Int.toNat 2) (IntKind.bits .u64)))) &&& BitVec.ofInt (IntKind.bits .u64) 3689348814741910323).toNat) + (wr .u64 (BitVec.ofInt (IntKind.bits .u64) (wr .u64 ((wr .u64 (BitVec.ofInt (IntKind.bits .u64) (Int.fdiv x0 (2 ^ (min (Int.toNat 1) (IntKind.bits .u64)))) &&& BitVec.ofInt (IntKind.bits .u64) 6148914691236517205).toNat) + (wr .u64 (BitVec.ofInt (IntKind.bits .u64) x0 &&& BitVec.ofInt (IntKind.bits .u64) 6148914691236517205).toNat))) &&& BitVec.ofInt (IntKind.bits .u64) 3689348814741910323).toNat))) (2 ^ (min (Int.toNat 4) (IntKind.bits .u64)))) + (wr .u64 ((wr .u64 (BitVec.ofInt (IntKind.bits .u64) (Int.fdiv (wr .u64 ((wr .u64 (BitVec.ofInt (IntKind.bits .u64) (Int.fdiv x0 (2 ^ (min (Int.toNat 1) (IntKind.bits .u64)))) &&& BitVec.ofInt (IntKind.bits .u64) 6148914691236517205).toNat) + (wr .u64 (BitVec.ofInt (IntKind.bits .u64) x0 &&& BitVec.ofInt (IntKind.bits .u64) 6148914691236517205).toNat))) (2 ^ (min (Int.toNat 2) (IntKind.bits .u64)))) &&& BitVec.ofInt (IntKind.bits .u64) 3689348814741910323).toNat) + (wr .u64 (BitVec.ofInt (IntKind.bits .u64) (wr .u64 ((wr .u64 (BitVec.ofInt (IntKind.bits .u64) (Int.fdiv x0 (2 ^ (min (Int.toNat 1) (IntKind.bits .u64)))) &&& BitVec.ofInt (IntKind.bits .u64) 6148914691236517205).toNat) + (wr .u64 (BitVec.ofInt (IntKind.bits .u64) x0 &&& BitVec.ofInt (IntKind.bits .u64) 6148914691236517205).toNat))) &&& BitVec.ofInt (IntKind.bits .u64) 3689348814741910323).toNat))))) &&& BitVec.ofInt (IntKind.bits .u64) 1085102592571150095).toNat) + (Int.fdiv (wr .u64 (BitVec.ofInt (IntKind.bits .u64) (wr .u64 ((Int.fdiv (wr .u64 ((wr .u64 (BitVec.ofInt (IntKind.bits .u64) (Int.fdiv (wr .u64 ((wr .u64 (BitVec.ofInt (IntKind.bits .u64) (Int.fdiv x0 (2 ^ (min (Int.toNat 1) (IntKind.bits .u64)))) &&& BitVec.ofInt (IntKind.bits .u64) 6148914691236517205).toNat) + (wr .u64 (BitVec.ofInt (IntKind.bits .u64) x0 &&& BitVec.ofInt (IntKind.bits .u64) 6148914691236517205).toNat))) (2 ^ (min (Int.toNat 2) (IntKind.bits .u64)))) &&& BitVec.ofInt (IntKind.bits .u64) 3689348814741910323).toNat) + (wr .u64 (BitVec.ofInt (IntKind.bits .u64) (wr .u64 ((wr .u64 (BitVec.ofInt (IntKind.bits .u64) (Int.fdiv x0 (2 ^ (min (Int.toNat 1) (IntKind.bits .u64)))) &&& BitVec.ofInt (IntKind.bits .u64) 6148914691236517205).toNat) + (wr .u64 (BitVec.ofInt (IntKind.bits .u64) x0 &&& BitVec.ofInt (IntKind.bits .u64) 6148914691236517205).toNat))) &&& BitVec.ofInt (IntKind.bits .u64) 3689348814741910323).toNat))) (2 ^ (min (Int.toNat 4) (IntKind.bits .u64)))) + (wr .u64 ((wr .u64 (BitVec.ofInt (IntKind.bits .u64) (Int.fdiv (wr .u64 ((wr .u64 (BitVec.ofInt (IntKind.bits .u64) (Int.fdiv x0 (2 ^ (min (Int.toNat 1) (IntKind.bits .u64)))) &&& BitVec.ofInt (IntKind.bits .u64) 6148914691236517205).toNat) + (wr .u64 (BitVec.ofInt (IntKind.bits .u64) x0 &&& BitVec.ofInt (IntKind.bits .u64) 6148914691236517205).toNat))) (2 ^ (min (Int.toNat 2) (IntKind.bits .u64)))) &&& BitVec.ofInt (IntKind.bits .u64) 3689348814741910323).toNat) + (wr .u64 (BitVec.ofInt (IntKind.bits .u64) (wr .u64 ((wr .u64 (BitVec.ofInt (IntKind.bits .u64) (Int.fdiv x0 (2 ^ (min (Int.toNat 1) (IntKind.bits .u64)))) &&& BitVec.ofInt (IntKind.bits .u64) 6148914691236517205).toNat) + (wr .u64 (BitVec.ofInt (IntKind.bits .u64) x0 &&& BitVec.ofInt (IntKind.bits .u64) 6148914691236517205).toNat))) &&& BitVec.ofInt (IntKind.bits .u64) 3689348814741910323).toNat))))) &&& BitVec.ofInt (IntKind.bits .u64) 1085102592571150095).toNat) (2 ^ (min (Int.toNat 8) (IntKind.bits .u64)))))) (2 ^ (min (Int.toNat 16) (IntKind.bits .u64)))))) (2 ^ (min (Int.toNat 32) (IntKind.bits .u64))))))) &&& BitVec.ofInt (IntKind.bits .i64) 127).toNat)))))))
theorem S124_D (n : Nat × Nat) (hn : n.2 = 1) : S124 n = D124 n := by
  funext x0; refine (S124_eq n x0).trans ?_
  unfold D124
  first | with_reducible rfl | rfl
/-D 109 -/
noncomputable def D109 (n : Nat × Nat) (x0 : Int) : Option R109 :=
 (D124 n x0).bind fun r1' =>
 some r1'
theorem S109_D (n : Nat × Nat) (hn : n.2 = 1) : S109 n = D109 n := by
  funext x0; refine (S109_eq n x0).trans ?_
  unfold D109
  (try simp only [S124_D n hn]) <;> first | with_reducible rfl | rfl
/-D 79 -/
noncomputable def D79 (n : Nat × Nat) (f0 : Int × Unit) (page1 : Int) (room2 : Int) : Option R79 :=
 (bif decide (page1 < 0) then none
 else ((bif (((wr .u64 (BitVec.ofInt (IntKind.bits .u64) (Int.fdiv f0.1 (2 ^ (min (Int.toNat page1) (IntKind.bits .u64)))) &&& BitVec.ofInt (IntKind.bits .u64) 1).toNat) == 0) == true) then (D109 n f0.1).bind fun r1' =>
 some (decide (r1' ≥ room2))
 else some false)).bind fun b2' =>
 some b2')
theorem S79_D (n : Nat × Nat) (hn : n.2 = 1) : S79 n = D79 n := by
  funext f0 page1 room2; refine (S79_eq n f0 page1 room2).trans ?_
  unfold D79
  (try simp only [S109_D n hn]) <;> first | with_reducible rfl | rfl
/- (headword/stand.floor).with -/
abbrev R80 := Int × Unit
noncomputable def c80 : Code := bodyOf Tryd.f80
noncomputable def an80 : Ann := (.s .l (.s (.s .l (.j [1, 3, 6] .l .l)) .l))
def pk80 : List PK := [.c (.pair (.int .u64) .unit), .c (.int .i64), .c (.int .i64)]
def rk80 : List RK := [.box (.pair (.int .u64) .unit) 6]
noncomputable def rt80 (st : St) : Option R80 := rtG rk80 st
noncomputable def E80 (n : Nat × Nat) : Env := { T := tab, phi := noPhi, eff := fun _ => false, fuel := n.1, hold := n.2 }
noncomputable def S80 (n : Nat × Nat) (f0 : Int × Unit) (page1 : Int) (gone2 : Int) : Option R80 := run (E80 n) c80 an80 rt80 (fun _ _ => none) rt80 { tm := [.agg [.int .u64 f0.1], .c (.int .i64 page1), .c (.int .i64 gone2), uu, uu, uu, uu, uu, uu, uu, uu, uu, uu, uu, uu, uu, uu, uu, uu, uu, uu, uu], hp := emp }
theorem S80_eq (n : Nat × Nat) (f0 : Int × Unit) (page1 : Int) (gone2 : Int) : S80 n f0 page1 gone2 =
 (bif decide (gone2 ≥ 0) then (bif decide (gone2 < 0) then none
 else (bif decide (page1 < 0) then none
 else some (wr .u64 (BitVec.ofInt (IntKind.bits .u64) (wr .u64 (BitVec.ofInt (IntKind.bits .u64) f0.1 &&& ~~~BitVec.ofInt (IntKind.bits .u64) (wr .u64 (1 * 2 ^ (min (Int.toNat gone2) (IntKind.bits .u64))))).toNat) ||| BitVec.ofInt (IntKind.bits .u64) (wr .u64 (1 * 2 ^ (min (Int.toNat page1) (IntKind.bits .u64))))).toNat, ())))
 else (bif decide (page1 < 0) then none
 else some (wr .u64 (BitVec.ofInt (IntKind.bits .u64) f0.1 ||| BitVec.ofInt (IntKind.bits .u64) (wr .u64 (1 * 2 ^ (min (Int.toNat page1) (IntKind.bits .u64))))).toNat, ()))) := by kernel_rfl
theorem S80_run (n : Nat × Nat) (xs : pksDen pk80) : S80 n xs.1 xs.2.1 xs.2.2.1 = runG (E80 n) noScope c80 an80 (rtG rk80) (fun _ _ => none) (rtG rk80) (st0 pk80 xs Tryd.f80.ntmps) := by kernel_rfl
noncomputable def P80 (n : Nat × Nat) := phiOf pk80 rk80 (fun xs => S80 n xs.1 xs.2.1 xs.2.2.1)
theorem env80 (n : Nat × Nat) : EnvOK Tryd.prog (E80 n) := envOK0 noPhi_ok rfl rfl
theorem par80 (n : Nat × Nat) : EnvPar (E80 n) := envPar0 noPhi_par rfl
theorem FC80 (n : Nat × Nat) : FCs Tryd.prog 80 (P80 n) := phiOf_FCs fun xs r h vs hv => FC.of_runG tabOK eqsOK (env80 n) (par80 n) mixed (fun _ p _ => noScope_ok p.1 p.2) Tryd.func80 (c := c80) (an := an80) (pks := pk80) (rks := rk80) (by kernel_rfl) (by kernel_rfl) hv ((S80_run n xs).symm.trans h)
/-D 80 -/
noncomputable def D80 (n : Nat × Nat) (f0 : Int × Unit) (page1 : Int) (gone2 : Int) : Option R80 :=
 (bif decide (gone2 ≥ 0) then (bif decide (gone2 < 0) then none
 else (bif decide (page1 < 0) then none
 else some (wr .u64 (BitVec.ofInt (IntKind.bits .u64) (wr .u64 (BitVec.ofInt (IntKind.bits .u64) f0.1 &&& ~~~BitVec.ofInt (IntKind.bits .u64) (wr .u64 (1 * 2 ^ (min (Int.toNat gone2) (IntKind.bits .u64))))).toNat) ||| BitVec.ofInt (IntKind.bits .u64) (wr .u64 (1 * 2 ^ (min (Int.toNat page1) (IntKind.bits .u64))))).toNat, ())))
 else (bif decide (page1 < 0) then none
 else some (wr .u64 (BitVec.ofInt (IntKind.bits .u64) f0.1 ||| BitVec.ofInt (IntKind.bits .u64) (wr .u64 (1 * 2 ^ (min (Int.toNat page1) (IntKind.bits .u64))))).toNat, ())))
theorem S80_D (n : Nat × Nat) (hn : n.2 = 1) : S80 n = D80 n := by
  funext f0 page1 gone2; refine (S80_eq n f0 page1 gone2).trans ?_
  unfold D80
  first | with_reducible rfl | rfl
end Go.Proofs.YtkfkbebinhkdlaaDoor
set_option linter.unusedVariables false
set_option linter.unusedSimpArgs false
set_option maxRecDepth 100000
namespace Go.Proofs.YtkfkbebinhkdlaaDoor
open Go.RowKit Go.Vi
def tzTab : List Int := [0, 1, 56, 2, 57, 49, 28, 3, 61, 58, 42, 50, 38, 29, 17, 4, 62, 47, 59, 36, 45, 43, 51, 22, 53, 39, 33, 30, 24, 18, 12, 5, 63, 55, 48, 27, 60, 41, 37, 16, 46, 35, 44, 21, 52, 32, 23, 11, 54, 26, 40, 15, 34, 20, 31, 10, 25, 14, 19, 9, 13, 8, 7, 6]
def tzIx (x : Int) : Int := IntKind.u64.wrap (bits BinOp.and IntKind.u64 x (IntKind.u64.wrap (-x)) * 285870213051353865) / 288230376151711744
def tzF (x q : Int) : Option Int := bif x == 0 then some 64 else bif decide (0 ≤ q) && decide (q < 64) then tzTab[q.toNat]? else none
def HF73 (x : Int) : Option Int := tzF x (tzIx x)
theorem tzF_zero {q r : Int} (h : tzF 0 q = some r) : r = 64 := by
  have : tzF 0 q = some 64 := rfl
  rw [this] at h
  exact (Option.some.inj h).symm
theorem tzF_pos {x q r : Int} (hx : (x == 0) = false) (h : tzF x q = some r) : 0 ≤ q ∧ q < 64 ∧ tzTab[q.toNat]? = some r := by
  unfold tzF at h
  rw [hx, cond_false] at h
  cases hd : decide (0 ≤ q) && decide (q < 64) with
  | true =>
    rw [hd, cond_true] at h
    simp only [Bool.and_eq_true, decide_eq_true_eq] at hd
    exact ⟨hd.1, hd.2, h⟩
  | false => rw [hd, cond_false] at h; cases h
theorem tz_zero (w : World) : Calls Tryd.prog 73 #[.int .u64 0] w fun e W' => e = .returned (.int .i64 64) ∧ w = W' := by
  go_enter Tryd.func73, Tryd.ntmps73
  go_wp2
  go_ret
  exact ⟨rfl, rfl⟩
theorem tz_in (x r : Int) (w : World) (hx : (x == 0) = false) (h0 : 0 ≤ tzIx x) (h1 : tzIx x < 64) (hr0 : 0 ≤ r) (hr1 : r ≤ 64) (hc : w.cell? ⟨1, (tzIx x).toNat, none⟩ = some (.int .u8 r)) :
    Calls Tryd.prog 73 #[.int .u64 x] w fun e W' => e = .returned (.int .i64 r) ∧ w = W' := by
  unfold tzIx at h0 h1 hc
  go_enter Tryd.func73, Tryd.ntmps73
  go_wp2
  go_ret
  exact ⟨rfl, rfl⟩
theorem tz_bd {q : Nat} {r : Int} (h : tzTab[q]? = some r) : 0 ≤ r ∧ r ≤ 64 := by
  have hb : ∀ z ∈ tzTab, 0 ≤ z ∧ z ≤ 64 := by decide +kernel
  exact hb r (List.mem_of_getElem? h)
theorem tz_cell {w : World} {cur : Array Value} {et : TypeId} {fz : Nat × Nat} {q : Nat} {r : Int} (h3 : w.heap[1]? = some (.cells cur et fz)) (h4 : cur.toList = (tzTab.map fun z => (IntKind.u8, z)).map fun p => .int p.1 p.2) (h : tzTab[q]? = some r) :
    w.cell? ⟨1, q, none⟩ = some (.int .u8 r) := by
  simp only [World.cell?, h3]
  rw [← Array.getElem?_toList, h4]
  simp [List.getElem?_map, h]
theorem HC73 (n : Nat × Nat) (xs : pksDen [.c (.int .u64)]) (r : rksDen [.c (.int .i64) 0]) (h : HF73 xs.1 = some r) (vs : List V) (hv : pksArg [.c (.int .u64)] vs = some xs) :
    FC Tryd.prog 73 vs (rets [.c (.int .i64) 0] r) := by
  obtain ⟨x, ⟨⟩⟩ := xs
  intro w A0 args hA hargs hgl
  have hv2 := pksArg_VR _ _ _ _ hv hargs
  match args, hv2 with
  | [u1], hv2 =>
    have e1 : u1 = .int .u64 x := hv2.1
    subst e1
    have key : Calls Tryd.prog 73 #[.int .u64 x] w fun e W' => e = .returned (.int .i64 (r : Int)) ∧ w = W' := by
      cases hz : x == 0 with
      | true =>
        obtain rfl : x = 0 := by simpa using hz
        obtain rfl : r = 64 := tzF_zero h
        exact tz_zero w
      | false =>
        obtain ⟨h5, h6, h7⟩ := tzF_pos hz h
        obtain ⟨h1, h2, cur, et, fz, h3, h4⟩ := hgl 1 (tzTab.map fun z => (IntKind.u8, z)) rfl
        have hr := tz_bd h7
        exact tz_in x r w hz h5 h6 hr.1 hr.2 (tz_cell h3 h4 h7)
    refine key.mono ?_
    rintro e W' ⟨rfl, rfl⟩
    exact ⟨⟨Nat.le_refl _, rfl, rfl, rfl, fun _ _ => rfl⟩, [.emp], [_], rfl, rfl, fun b c h => (by cases h), trivial⟩
end Go.Proofs.YtkfkbebinhkdlaaDoor
set_option linter.unusedVariables false
set_option linter.unusedSimpArgs false
set_option maxRecDepth 100000
namespace Go.Proofs.YtkfkbebinhkdlaaDoor
open Go.Vi
/- math/bits.TrailingZeros64 -/
abbrev R73 := Int
def pk73 : List PK := [.c (.int .u64)]
def rk73 : List RK := [.c (.int .i64) 0]
noncomputable def S73 (n : Nat × Nat) (x0 : Int) : Option R73 := HF73 x0
noncomputable def P73 (n : Nat × Nat) := phiOf pk73 rk73 (fun xs => S73 n xs.1)
theorem call73 : CallOK Tryd.prog 73 := callOK_of Tryd.func73 (by kernel_rfl) (by kernel_rfl)
theorem FC73 (n : Nat × Nat) : FCs Tryd.prog 73 (P73 n) := phiOf_FCs fun xs r h vs hv => HC73 n xs r h vs hv
/- math/bits.TrailingZeros -/
abbrev R41 := Int
noncomputable def c41 : Code := bodyOf Tryd.f41
noncomputable def an41 : Ann := (.s .l (.s (.j [0] .l .l) .l))
def pk41 : List PK := [.c (.int .u64)]
def rk41 : List RK := [.c (.int .i64) 2]
noncomputable def rt41 (st : St) : Option R41 := rtG rk41 st
noncomputable def E41 (n : Nat × Nat) : Env := { T := tab, phi := (consPhi 73 (fun _ => true) (P73 n) noPhi), eff := fun _ => false, fuel := n.1, hold := n.2 }
noncomputable def S41 (n : Nat × Nat) (x0 : Int) : Option R41 := run (E41 n) c41 an41 rt41 (fun _ _ => none) rt41 { tm := [.c (.int .u64 x0), uu, uu, uu, uu, uu, uu, uu], hp := emp }
theorem S41_eq (n : Nat × Nat) (x0 : Int) : S41 n x0 =
 (S73 n x0).bind fun r1' =>
 some r1' := by kernel_rfl
theorem S41_run (n : Nat × Nat) (xs : pksDen pk41) : S41 n xs.1 = runG (E41 n) noScope c41 an41 (rtG rk41) (fun _ _ => none) (rtG rk41) (st0 pk41 xs Tryd.f41.ntmps) := by kernel_rfl
noncomputable def P41 (n : Nat × Nat) := phiOf pk41 rk41 (fun xs => S41 n xs.1)
theorem call41 : CallOK Tryd.prog 41 := callOK_of Tryd.func41 (by kernel_rfl) (by kernel_rfl)
theorem env41 (n : Nat × Nat) : EnvOK Tryd.prog (E41 n) := envOK0 (consPhi_ok (FC73 n) call73 noPhi_ok) rfl rfl
theorem par41 (n : Nat × Nat) : EnvPar (E41 n) := envPar0 (consPhi_par phiOf_Par1 noPhi_par) rfl
theorem FC41 (n : Nat × Nat) : FCs Tryd.prog 41 (P41 n) := phiOf_FCs fun xs r h vs hv => FC.of_runG tabOK eqsOK (env41 n) (par41 n) mixed (fun _ p _ => noScope_ok p.1 p.2) Tryd.func41 (c := c41) (an := an41) (pks := pk41) (rks := rk41) (by kernel_rfl) (by kernel_rfl) hv ((S41_run n xs).symm.trans h)
abbrev R81 := List Int
noncomputable def c81 : Code := bodyOf Tryd.f81
noncomputable def an81 : Ann := (.s .l (.s .l (.s (.j [3] (.j [0, 3] (.s (.s .l (.j [0, 3] .l .l)) (.s (.j [0, 3] .l .l) .l)) .l) .l) .l)))
def pk81 : List PK := [.c (.int .u64)]
def rk81 : List RK := [.own (.int .i64) 2]
noncomputable def rt81 (st : St) : Option R81 := rtG rk81 st
noncomputable def E81 (n : Nat × Nat) : Env := { T := tab, phi := (consPhi 41 (fun _ => true) (P41 n) noPhi), eff := fun _ => false, fuel := n.1, hold := n.2 }
noncomputable def kq81_1 (n : Nat × Nat) : St → Option R81 := run (E81 n) (cB (cB (cB c81))) (Ann.snd (Ann.snd (Ann.snd an81))) rt81 (fun _ _ => none) rt81
noncomputable def xb81_3 (n : Nat × Nat) : Nat → St → Option R81 := fun j s => bif Nat.beq j 0 then normC [3] s (kq81_1 n) else (fun _ _ => none) j s
noncomputable def F81_4 (n : Nat × Nat) : (St → Option R81) → St → Option R81 := fun K s => run (E81 n) (cA (cA (cA (cB (cB c81))))) (Ann.fst (Ann.fst (Ann.fst (Ann.snd (Ann.snd an81))))) (fun s => normC [0, 3] s K) (xb81_3 n) rt81 s
noncomputable def L81_1 (n : Nat × Nat) (m : Nat) (v0 : Int) (out3 : List Int) : Option R81 := loopN (F81_4 n) m { tm := [.c (.int .u64 v0), uu, uu, .own 3 none false, uu, uu, uu, uu, uu, uu, uu, uu, uu, uu, uu, uu], hp := (upd emp 3 (.arr (.int .i64) out3 false)) }
theorem L81_1_eq (n : Nat × Nat) (m1 : Nat) (v0 : Int) (out3 : List Int) : L81_1 n (m1 + 1) v0 out3 =
 (bif (v0 != 0) then (S41 n v0).bind fun r1' =>
 (bif decide (out3.length + [r1'].length ≤ lim) then L81_1 n m1 (wr .u64 (BitVec.ofInt (IntKind.bits .u64) v0 &&& BitVec.ofInt (IntKind.bits .u64) (wr .u64 (v0 - 1))).toNat) (out3 ++ [r1'])
 else none)
 else some out3) := by kernel_rfl
noncomputable def S81 (n : Nat × Nat) (v0 : Int) : Option R81 := run (E81 n) c81 an81 rt81 (fun _ _ => none) rt81 { tm := [.c (.int .u64 v0), uu, uu, uu, uu, uu, uu, uu, uu, uu, uu, uu, uu, uu, uu, uu], hp := emp }
theorem S81_eq (n : Nat × Nat) (v0 : Int) : S81 n v0 =
    L81_1 n n.1 v0 [] := by kernel_rfl
theorem S81_run (n : Nat × Nat) (xs : pksDen pk81) : S81 n xs.1 = runG (E81 n) noScope c81 an81 (rtG rk81) (fun _ _ => none) (rtG rk81) (st0 pk81 xs Tryd.f81.ntmps) := by kernel_rfl
noncomputable def P81 (n : Nat × Nat) := phiOf pk81 rk81 (fun xs => S81 n xs.1)
theorem env81 (n : Nat × Nat) : EnvOK Tryd.prog (E81 n) := envOK0 (consPhi_ok (FC41 n) call41 noPhi_ok) rfl rfl
theorem par81 (n : Nat × Nat) : EnvPar (E81 n) := envPar0 (consPhi_par phiOf_Par1 noPhi_par) rfl
theorem FC81 (n : Nat × Nat) : FCs Tryd.prog 81 (P81 n) := phiOf_FCs fun xs r h vs hv => FC.of_runG tabOK eqsOK (env81 n) (par81 n) mixed (fun _ p _ => noScope_ok p.1 p.2) Tryd.func81 (c := c81) (an := an81) (pks := pk81) (rks := rk81) (by kernel_rfl) (by kernel_rfl) hv ((S81_run n xs).symm.trans h)
/-D 73 -/
noncomputable def D73 (n : Nat × Nat) (x0 : Int) : Option R73 := HF73 x0
theorem S73_D (n : Nat × Nat) (hn : n.2 = 1) : S73 n = D73 n := by unfold S73 D73; rfl
/-D 41 -/
noncomputable def D41 (n : Nat × Nat) (x0 : Int) : Option R41 :=
 (D73 n x0).bind fun r1' =>
 some r1'
theorem S41_D (n : Nat × Nat) (hn : n.2 = 1) : S41 n = D41 n := by
  funext x0; refine (S41_eq n x0).trans ?_
  unfold D41
  (try simp only [S73_D n hn]) <;> first | with_reducible rfl | rfl
/-D 81 -/
noncomputable def DF81_1 (n : Nat × Nat) (f1 : Int → List Int → Option R81) (v0 : Int) (out3 : List Int) : Option R81 :=
 (bif (v0 != 0) then (D41 n v0).bind fun r1' =>
 (bif decide (out3.length + [r1'].length ≤ lim) then f1 (wr .u64 (BitVec.ofInt (IntKind.bits .u64) v0 &&& BitVec.ofInt (IntKind.bits .u64) (wr .u64 (v0 - 1))).toNat) (out3 ++ [r1'])
 else none)
 else some out3)
noncomputable def DL81_1 (n : Nat × Nat) (m : Nat) : Int → List Int → Option R81 := Nat.rec (motive := fun _ => Int → List Int → Option R81) (fun _ _ => none) (fun _ ih => DF81_1 n ih) m
theorem DL81_1_succ (n : Nat × Nat) (m : Nat) : DL81_1 n (m + 1) = DF81_1 n (DL81_1 n m) := rfl
theorem DL81_1_eq (n : Nat × Nat) (hn : n.2 = 1) : ∀ m, L81_1 n m = DL81_1 n m
  | 0 => by funext v0 out3; kernel_rfl
  | m + 1 => by
    have ih := DL81_1_eq n hn m
    funext v0 out3; refine (L81_1_eq n m v0 out3).trans ?_
    rw [DL81_1_succ]
    unfold DF81_1
    (try simp only [ih, S41_D n hn]) <;> first | with_reducible rfl | rfl
noncomputable def D81 (n : Nat × Nat) (v0 : Int) : Option R81 :=
    DL81_1 n n.1 v0 []
theorem S81_D (n : Nat × Nat) (hn : n.2 = 1) : S81 n = D81 n := by
  funext v0; refine (S81_eq n v0).trans ?_
  unfold D81
  (try simp only [DL81_1_eq n hn, S41_D n hn]) <;> first | with_reducible rfl | rfl

def n0 : Nat × Nat := (100, 1)
noncomputable def chkFull (f p r : Nat) : Bool := match D79 n0 ((f : Int), ()) p r with | some b => b == (!f.testBit p && Nat.ble r (cntF f)) | none => false
noncomputable def chkSw (f p g : Nat) : Bool := match D80 n0 ((f : Int), ()) p g with | some b => b.1 == (swF f p g : Int) | none => false
noncomputable def chkAdd (f p : Nat) : Bool := match D80 n0 ((f : Int), ()) p (-1) with | some b => b.1 == (addF f p : Int) | none => false
def eqL : List Int → List Nat → Bool
  | [], [] => true
  | x :: l, y :: m => x == (y : Int) && eqL l m
  | _, _ => false
theorem eqL_eq : ∀ {l : List Int} {m : List Nat}, eqL l m = true → l = m.map fun (y : Nat) => (y : Int)
  | [], [], _ => rfl
  | x :: l, y :: m, h => by
    simp only [eqL, Bool.and_eq_true, beq_iff_eq] at h
    rw [List.map_cons, ← eqL_eq h.2, h.1]
  | [], _ :: _, h => by cases h
  | _ :: _, [], h => by cases h
noncomputable def chkList (f : Nat) : Bool := match D81 n0 (f : Int) with | some l => eqL l (bitsF f) | none => false
def chkBit (f p : Nat) : Bool := (bits BinOp.and IntKind.u64 ((f : Int) / 2 ^ p) 1 == 1) == f.testBit p
theorem full_tab : (all64 fun f => all6 fun p => all6 fun r => chkFull f p r) = true := by kernel_rfl
theorem sw_tab : (all64 fun f => all6 fun p => all6 fun g => chkSw f p g) = true := by kernel_rfl
theorem add_tab : (all64 fun f => all6 fun p => chkAdd f p) = true := by kernel_rfl
theorem list_tab : (all64 fun f => chkList f) = true := by kernel_rfl
theorem bit_tab : (all64 fun f => all6 fun p => chkBit f p) = true := by kernel_rfl
end Go.Proofs.YtkfkbebinhkdlaaDoor
set_option linter.unusedVariables false
set_option linter.unusedSimpArgs false
set_option maxRecDepth 100000
namespace Go.Proofs.YtkfkbebinhkdlaaDoor
open Go.RowKit Go.Shelf
theorem Vs_end (room : Nat) (zs : List Int) (f : Nat) : Vs room zs zs.length f = 0 := by
  unfold Vs
  rw [List.drop_length]
  rfl
theorem Vs_cons {room : Nat} {zs : List Int} {t : Nat} (h : t < zs.length) (f : Nat) : Vs room zs t f = lst room (zs[t].toNat :: (zs.drop (t + 1)).map Int.toNat) f := by
  unfold Vs
  rw [List.drop_eq_getElem_cons h]
  rfl
theorem Vs_bd {room : Nat} (hr : 0 < room) {zs : List Int} (hl : zs.length ≤ 12) (t f : Nat) : 0 ≤ Vs room zs t f ∧ Vs room zs t f ≤ 12 := by
  have := lst_bd room hr ((zs.drop t).map Int.toNat) f
  rw [List.length_map, List.length_drop] at this
  unfold Vs
  omega
theorem bit_eq {f p : Nat} (hf : f < 64) (hp : p < 6) : (bits BinOp.and IntKind.u64 ((f : Int) / 2 ^ p) 1 == 1) = f.testBit p := by
  have := all6_get (all64_get bit_tab hf) hp
  simpa [chkBit] using this
/-- What the search leans on, in each world. -/
structure Calls3 (G : World → Prop) (room : Nat) : Prop where
  full : ∀ (W : World), G W → ∀ f p : Nat, f < 64 → p < 6 → Calls Tryd.prog 79 #[.agg #[.int .u64 f], .int .i64 (p : Int), .int .i64 room] W fun e W' => e = .returned (.bool (!f.testBit p && Nat.ble room (cntF f))) ∧ Below W.heap.size W W'
  add : ∀ (W : World), G W → ∀ f p : Nat, f < 64 → p < 6 → Calls Tryd.prog 80 #[.agg #[.int .u64 f], .int .i64 (p : Int), .int .i64 (-1)] W fun e W' => e = .returned (.agg #[.int .u64 (addF f p)]) ∧ Below W.heap.size W W'
  sw : ∀ (W : World), G W → ∀ f p g : Nat, f < 64 → p < 6 → g < 6 → Calls Tryd.prog 80 #[.agg #[.int .u64 f], .int .i64 (p : Int), .int .i64 (g : Int)] W fun e W' => e = .returned (.agg #[.int .u64 (swF f p g)]) ∧ Below W.heap.size W W'
  list : ∀ (W : World), G W → ∀ f : Nat, f < 64 → 0 < (bitsF f).length → Calls Tryd.prog 81 #[.int .u64 f] W fun e W' => ∃ b2 cap2, e = .returned (.slice (some ⟨b2, 0, none⟩) (bitsF f).length cap2) ∧ W.heap.size ≤ b2 ∧ Lst (bitsF f) b2 W' ∧ Below W.heap.size W W'
theorem least_all {G : World → Prop} {room : Nat} (hC : Calls3 G room) (hr0 : 0 < room) (zs : List Int) (hzl : zs.length ≤ 12) (hz : ∀ z ∈ zs, 0 ≤ z ∧ z < 6) (a : Option Addr) (cap b : Nat) :
    ∀ (m t f : Nat) (cur : Array Value) (w : World), t + m = zs.length → f < 64 → (∀ W, w.grownBy W (some b) → G W) → Tbl (Vs room zs) room a zs.length cap b cur w → PgOK zs a b w →
      Calls Tryd.prog 47 #[.pointer (some ⟨b, 0, none⟩), .int .i64 t, .agg #[.int .u64 f]] w (LeastAt (Vs room zs) room a zs.length cap b t f w)
  | 0, t, f, cur, w, ht, hf, hG, hT, hP => by
    obtain rfl : t = zs.length := by omega
    refine (least_end (Vs room zs) room a zs.length cap b f cur w hzl hT).mono ?_
    rintro e W ⟨rfl, hB⟩
    exact ⟨1, cur, by rw [Vs_end], hT.other ((hB.block b hT.blk.lt).trans hT.blk), gb_below hB⟩
  | m + 1, t, f, cur, w, ht, hf, hG, hT, hP => by
    have htl : t < zs.length := by omega
    obtain ⟨s, p, k1, k2, h3⟩ := hT.known t f (by omega) hf
    by_cases hn : s = 0 ∧ p = 0
    · obtain ⟨rfl, rfl⟩ := hn
      have hJ : Job (Vs room zs) room zs a zs.length cap b t f cur w := ⟨rfl, hzl, htl, hf, hT, hP, k1, k2, hz⟩
      obtain ⟨z0, z1⟩ := hz zs[t] (List.getElem_mem _)
      obtain ⟨q, hq⟩ := Int.eq_ofNat_of_zero_le z0
      have hq6 : q < 6 := by omega
      have hVc := Vs_cons (room := room) htl f
      rw [hq, Int.toNat_natCast] at hVc
      have hbit : ∀ h : t < zs.length, (bits BinOp.and IntKind.u64 ((f : Int) / 2 ^ (zs[t]'h).toNat) 1 == 1) = f.testBit q := fun _ => by
        rw [hq, Int.toNat_natCast]; exact bit_eq hf hq6
      have hrec : ∀ f' : Nat, f' < 64 → ∀ (W : World) (cur : Array Value), (w.grownBy W (some b)) → Tbl (Vs room zs) room a zs.length cap b cur W → PgOK zs a b W → Calls Tryd.prog 47 #[.pointer (some ⟨b, 0, none⟩), .int .i64 ((t : Int) + 1), .agg #[.int .u64 f']] W (LeastAt (Vs room zs) room a zs.length cap b (t + 1) f' W) := fun f' hf' W cur' hW hT' hP' => by
        have := least_all hC hr0 zs hzl hz a cap b m (t + 1) f' cur' W (by omega) hf' (fun W' hW' => hG W' (gb_trans hW hW')) hT' hP'
        simpa using this
      let GW : World → Prop := fun W => w.grownBy W (some b)
      cases hb : f.testBit q with
      | true =>
        exact least_stand (Vs room zs) room a zs.length cap b t f zs cur w hJ (by rw [hVc, lst_step hb]; rfl) (fun h => (hbit h).trans hb) GW (fun W h => h) (fun W cur hW => hrec f hf W cur hW)
      | false =>
        by_cases hc : cntF f < room
        · refine least_add (Vs room zs) room a zs.length cap b t f (addF f q) zs cur w hJ (by rw [hVc, lst_add hb hc, Int.add_comm]; rfl) (Vs_bd hr0 hzl _ _) (fun h => (hbit h).trans hb) GW (fun W h => h) (fun W hW h => ?_) (fun W hW h => ?_)
            (fun W cur hW => hrec _ (addF_lt hf hq6) W cur hW)
          · rw [hq]
            refine (hC.full W (hG W hW) f q hf hq6).mono ?_
            rintro e W' ⟨rfl, hB⟩
            have : Nat.ble room (cntF f) = false := by
              cases h : Nat.ble room (cntF f) with
              | false => rfl
              | true => have := Nat.le_of_ble_eq_true h; omega
            exact ⟨by rw [hb, this]; rfl, hB⟩
          · rw [hq]
            exact hC.add W (hG W hW) f q hf hq6
        · have h6 : (bitsF f).length ≤ 6 := by
            unfold bitsF
            have := List.length_filter_le (fun p => f.testBit p) (List.range 6)
            rw [List.length_range] at this
            exact this
          have h0 : 0 < (bitsF f).length := by rw [← cntF_bits]; omega
          refine least_swap (Vs room zs) room a zs.length cap b t f (bitsF f) (swF f q) zs cur w hJ h0 h6 (fun g hg => bitsF_lt hg) ?_ (fun g hg => Vs_bd hr0 hzl _ _) (fun h => (hbit h).trans hb) GW (fun W h => h) (fun W hW h => ?_) (fun W hW => hC.list W (hG W hW) f hf h0) (fun W hW h g hg => ?_)
            (fun g hg W cur hW => hrec _ (swF_lt hf hq6 (bitsF_lt hg)) W cur hW)
          · rw [hVc, lst_sw hb hc]
            congr 1
            funext g
            rw [Int.add_comm]
            rfl
          · rw [hq]
            refine (hC.full W (hG W hW) f q hf hq6).mono ?_
            rintro e W' ⟨rfl, hB⟩
            have : Nat.ble room (cntF f) = true := by simp only [Nat.ble_eq]; omega
            exact ⟨by rw [hb, this]; rfl, hB⟩
          · rw [hq]
            exact hC.sw W (hG W hW) f q g hf hq6 (bitsF_lt hg)
    · have hs : s = Vs room zs t f := h3.resolve_left hn
      refine (least_known (Vs room zs) room a zs.length cap b t f s p cur w hzl htl hf hT k1 k2 hn).mono ?_
      rintro e W ⟨rfl, hB⟩
      exact ⟨p, cur, by rw [hs], hT.other ((hB.block b hT.blk.lt).trans hT.blk), gb_below hB⟩
/-- The table at the beginning. -/
noncomputable def tblI (room : Int) (a : Option Addr) (L cap : Nat) : Array Value := (Tryd.prog.built 106 [(0, .agg #[.int .i64 room, .slice a L cap])]).getD #[]
def isZ (v : Value) : Bool := match v with | .int .i64 0 => true | _ => false
theorem isZ_eq {v : Value} (h : isZ v = true) : v = .int .i64 0 := by
  unfold isZ at h
  split at h
  · rfl
  · cases h
theorem tblI_some (room : Int) (a : Option Addr) (L cap : Nat) : (Tryd.prog.built 106 [(0, .agg #[.int .i64 room, .slice a L cap])]).isSome = true := by kernel_rfl
theorem tblI_size (room : Int) (a : Option Addr) (L cap : Nat) : (tblI room a L cap).size = 1538 := by kernel_rfl
theorem tblI_0 (room : Int) (a : Option Addr) (L cap : Nat) : (tblI room a L cap)[0]? = some (.int .i64 room) := by kernel_rfl
theorem tblI_1 (room : Int) (a : Option Addr) (L cap : Nat) : (tblI room a L cap)[1]? = some (.slice a L cap) := by kernel_rfl
theorem tblI_zs (room : Int) (a : Option Addr) (L cap : Nat) : ((tblI room a L cap).toList.drop 2).all isZ = true := by kernel_rfl
theorem tblI_built (room : Int) (a : Option Addr) (L cap : Nat) : Tryd.prog.built 106 [(0, .agg #[.int .i64 room, .slice a L cap])] = some (tblI room a L cap) := by
  unfold tblI
  obtain ⟨c, hc⟩ := Option.isSome_iff_exists.1 (tblI_some room a L cap)
  rw [hc]
  rfl
theorem tblI_get (room : Int) (a : Option Addr) (L cap i : Nat) (h : i < 1536) : (tblI room a L cap)[2 + i]? = some (.int .i64 0) := by
  have hs := tblI_size room a L cap
  have hz := tblI_zs room a L cap
  generalize tblI room a L cap = T at hs hz ⊢
  have h1 : (T.toList.drop 2)[i]? = some (T[2 + i]'(by omega)) := by
    rw [List.getElem?_drop, Array.getElem?_toList, Array.getElem?_eq_getElem (by omega)]
  have := isZ_eq (List.all_eq_true.1 hz _ (List.mem_of_getElem? h1))
  rw [Array.getElem?_eq_getElem (by omega), this]
theorem tblI_known (V : Nat → Nat → Int) (room : Int) (a : Option Addr) (L cap : Nat) : Known V (tblI room a L cap) := fun t f ht hf => by
  refine ⟨0, 0, ?_, ?_, .inl ⟨rfl, rfl⟩⟩
  · rw [show 2 + t * 128 + f * 2 = 2 + (t * 128 + f * 2) by omega]
    exact tblI_get room a L cap _ (by omega)
  · rw [show 2 + t * 128 + f * 2 + 1 = 2 + (t * 128 + f * 2 + 1) by omega]
    exact tblI_get room a L cap _ (by omega)
theorem fld102 (x y : Int) (w : World) : (Instr.field 102 (.agg #[.int .i64 x, .int .i64 y]) 0).run Tryd.prog w = .ok (.int .i64 x) w := by kernel_rfl
set_option maxHeartbeats 4000000 in
theorem fewest_in {room : Nat} (a : Option Addr) (L cap : Nat) (v : Int) (Q : World → Prop) (w : World) (h0 : 0 ≤ v) (h1 : v ≤ 12)
    (hck : ∀ W, Below w.heap.size w W → Calls Tryd.prog 46 #[.agg #[.int .i64 room, .slice a L cap]] W fun e W' => e = .returned (.int .i64 0) ∧ Below W.heap.size W W')
    (hls : ∀ W, Below w.heap.size w W → Calls Tryd.prog 47 #[.pointer (some ⟨W.heap.size, 0, none⟩), .int .i64 0, .agg #[.int .u64 0]] (W.alloc (.cells (tblI room a L cap) 106)) fun e W' => ∃ pl : Int, e = .returned (.agg #[.int .i64 v, .int .i64 pl]) ∧ Q W') :
    Calls Tryd.prog 17 #[.agg #[.int .i64 room, .slice a L cap]] w fun e W' => e = .returned (.tuple #[.int .i64 v, .int .i64 0]) ∧ Q W' := by
  have hbd := fun w => run_build (P := Tryd.prog) w 106 #[(0, .agg #[.int .i64 room, .slice a L cap])] _ (tblI_built room a L cap)
  go_enter Tryd.func17, Tryd.ntmps17
  have hfd := fld102
  have hbj := Blk.new w #[.int .i64 room, .slice a L cap] 48
  go_wp2_with (first | (go_at_call 46; refine (hck _ ((Below.refl _ _).alloc (Nat.le_refl _) _)).mono ?_; rintro e W1 ⟨rfl, hB1⟩; have hw1 := ((Below.refl _ w).alloc (Nat.le_refl _) _).trans (hB1.mono (by simp)); have hbk : Blk W1 w.heap.size #[.int .i64 room, .slice a L cap] 48 := (hB1.block w.heap.size (by simp)).trans hbj; have e1 := hbk.cell 0 rfl; have e2 := hbk.cell 1 rfl) | (go_at_call 47; refine (hls _ hw1).mono ?_; rintro e W2 ⟨pl, rfl, hQ⟩))
  go_ret2
  exact ⟨rfl, hQ⟩
end Go.Proofs.YtkfkbebinhkdlaaDoor
set_option linter.unusedVariables false
set_option linter.unusedSimpArgs false
set_option maxRecDepth 100000
namespace Go.Proofs.YtkfkbebinhkdlaaDoor
open Go.RowKit Go.Shelf Go.Vi
theorem fcs_FC {pks : List PK} {rks : List RK} {S : pksDen pks → Option (rksDen rks)} {g : FuncId} (h : FCs Tryd.prog g (phiOf pks rks S)) {xs : pksDen pks} {r : rksDen rks} {vs : List V} (hv : pksArg pks vs = some xs) (hs : S xs = some r) :
    FC Tryd.prog g vs (rets rks r) := by
  obtain ⟨ret, h1, h2⟩ := h vs _ some (rets rks r) (by unfold phiOf; rw [hv]; simp only [Option.bind_some, hs])
  cases h1
  exact h2
/-- A call that gives one thing. -/
theorem fc_one {g : FuncId} {vs : List V} {r1 : Ret1} (h : FC Tryd.prog g vs [r1]) {w : World} {A : Nat → Prop} {args : List Value} (hA : ∀ b, A b → b < w.heap.size) (hv : All2 (VR noGam w A emp) vs args) (hgl : GlobOK w A) :
    Calls Tryd.prog g args.toArray w fun x w2 => ∃ i u A1, x = .returned u ∧ RetR1 w w2 A1 r1 i u ∧ Below w.heap.size w w2 := by
  refine (h w A args hA hv hgl).mono ?_
  intro x w2 hx
  cases x with
  | returned u =>
    obtain ⟨hG, is, us, rfl, hR⟩ := hx
    match is, us, hR with
    | [i], [u], ⟨hu, _, _⟩ => exact ⟨i, u, _, rfl, hu, ⟨hG.os, hG.tape, hG.output, hG.size, hG.blk⟩⟩
    | [], [], hR => exact hR.elim
    | [], _ :: _, hR => exact hR.elim
    | [_], [], hR => exact hR.elim
    | [_], _ :: _ :: _, hR => exact hR.2.2.elim
    | _ :: _ :: _, [], hR => exact hR.elim
    | _ :: _ :: _, [_], hR => exact hR.2.2.elim
    | _ :: _ :: _, _ :: _ :: _, hR => exact hR.2.2.elim
  | _ => exact hx.elim
theorem D79_eq {f p r : Nat} (hf : f < 64) (hp : p < 6) (hr : r < 6) : D79 n0 ((f : Int), ()) p r = some (!f.testBit p && Nat.ble r (cntF f)) := by
  have := all6_get (all6_get (all64_get full_tab hf) hp) hr
  unfold chkFull at this
  cases h : D79 n0 ((f : Int), ()) p r with
  | none => rw [h] at this; cases this
  | some b => rw [h] at this; simp only [beq_iff_eq] at this; rw [this]
theorem D80_sw {f p g : Nat} (hf : f < 64) (hp : p < 6) (hg : g < 6) : D80 n0 ((f : Int), ()) p g = some ((swF f p g : Int), ()) := by
  have := all6_get (all6_get (all64_get sw_tab hf) hp) hg
  unfold chkSw at this
  cases h : D80 n0 ((f : Int), ()) p g with
  | none => rw [h] at this; cases this
  | some b => obtain ⟨b, ⟨⟩⟩ := b; rw [h] at this; simp only [beq_iff_eq] at this; rw [this]
theorem D80_add {f p : Nat} (hf : f < 64) (hp : p < 6) : D80 n0 ((f : Int), ()) p (-1) = some ((addF f p : Int), ()) := by
  have := all6_get (all64_get add_tab hf) hp
  unfold chkAdd at this
  cases h : D80 n0 ((f : Int), ()) p (-1) with
  | none => rw [h] at this; cases this
  | some b => obtain ⟨b, ⟨⟩⟩ := b; rw [h] at this; simp only [beq_iff_eq] at this; rw [this]
theorem D81_eq {f : Nat} (hf : f < 64) : D81 n0 (f : Int) = some ((bitsF f).map fun (y : Nat) => (y : Int)) := by
  have := all64_get list_tab hf
  unfold chkList at this
  cases h : D81 n0 (f : Int) with
  | none => rw [h] at this; cases this
  | some l => rw [h] at this; rw [eqL_eq this]
/-- Pages that are all right. -/
theorem D108_ok (zs : List Int) (hl : zs.length ≤ 12) (hz : ∀ z ∈ zs, 0 ≤ z ∧ z < 6) : ∀ (m i : Nat), zs.length - i < m → i ≤ zs.length → DL108c78_1 n0 m zs (zs.length : Int) (i : Int) = some (-1)
  | 0, i, h, _ => by omega
  | m + 1, i, h, hi => by
    rw [DL108c78_1_succ]
    unfold DF108c78_1
    by_cases hlt : i < zs.length
    · obtain ⟨h1, h2⟩ := hz zs[i] (List.getElem_mem _)
      have e1 : idx zs (i : Int) = some zs[i] := by
        unfold idx
        rw [if_pos (by omega), Int.toNat_natCast, List.getElem?_eq_getElem hlt]
      have e2 : D78 n0 zs[i] = some false := by
        unfold D78
        rw [show decide (zs[i] < 0) = false by simp; omega, show decide (zs[i] ≥ 6) = false by simp; omega]
        rfl
      have e3 : wr .i64 ((i : Int) + 1) = ((i + 1 : Nat) : Int) := by
        show IntKind.i64.wrap _ = _
        rw [IntKind.wrap_i64]
        omega
      rw [show decide ((i : Int) < (zs.length : Int)) = true by simp; omega, cond_true, e1, Option.bind_some, e2, Option.bind_some, cond_false, e3]
      exact D108_ok zs hl hz m (i + 1) (by omega) (by omega)
    · rw [show decide ((i : Int) < (zs.length : Int)) = false by simp; omega]
      rfl
theorem D46_ok (room : Int) (zs : List Int) (h1 : 1 ≤ room) (h2 : room ≤ 5) (hl : zs.length ≤ 12) (hz : ∀ z ∈ zs, 0 ≤ z ∧ z < 6) : D46 n0 (room, zs) = some 0 := by
  have h := D108_ok zs hl hz 100 0 (by omega) (by omega)
  unfold D46 D77c78 D108c78
  rw [show DL108c78_1 n0 n0.1 zs (zs.length : Int) 0 = some (-1) from h, show decide ((room, zs).1 < 1) = false by simp; omega, show decide ((room, zs).1 > 5) = false by simp; omega, show decide (((room, zs).2.length : Int) > 12) = false by simp; omega]
  rfl
def HF17 (j : Int × List Int) : Option (Int × Int) :=
  bif decide (1 ≤ j.1) && decide (j.1 ≤ 5) && decide (j.2.length ≤ 12) && j.2.all (fun z => decide (0 ≤ z) && decide (z < 6)) then some (lst j.1.toNat (j.2.map Int.toNat) 0, 0) else none
theorem calls3 {room : Nat} (hr : room < 6) : Calls3 (fun W => GlobOK W (fun b => b < W.heap.size)) room where
  full W hW f p hf hp := by
    have h := fc_one (fcs_FC (rks := [.c .bool 6]) (FC79 n0) (vs := [.agg [.int .u64 (f : Int)], .c (.int .i64 (p : Int)), .c (.int .i64 (room : Int))]) (xs := (((f : Int), ()), (p : Int), (room : Int), ())) rfl ((congrFun (congrFun (congrFun (S79_D n0 rfl) _) _) _).trans (D79_eq hf hp hr)))
      (args := [.agg #[.int .u64 f], .int .i64 (p : Int), .int .i64 room]) (fun b hb => hb) ⟨⟨[_], rfl, rfl, trivial⟩, rfl, rfl, trivial⟩ hW
    refine h.mono ?_
    rintro e W' ⟨i, u, A1, rfl, hu, hB⟩
    have hu : u = .bool _ := hu
    exact ⟨by rw [hu], hB⟩
  add W hW f p hf hp := by
    have h := fc_one (fcs_FC (rks := [.box (.pair (.int .u64) .unit) 6]) (FC80 n0) (vs := [.agg [.int .u64 (f : Int)], .c (.int .i64 (p : Int)), .c (.int .i64 (-1))]) (xs := (((f : Int), ()), (p : Int), -1, ())) rfl ((congrFun (congrFun (congrFun (S80_D n0 rfl) _) _) _).trans (D80_add hf hp)))
      (args := [.agg #[.int .u64 f], .int .i64 (p : Int), .int .i64 (-1)]) (fun b hb => hb) ⟨⟨[_], rfl, rfl, trivial⟩, rfl, rfl, trivial⟩ hW
    refine h.mono ?_
    rintro e W' ⟨i, u, A1, rfl, ⟨vs, hu, hvs⟩, hB⟩
    match vs, hvs with
    | [u1], ⟨h1, _⟩ =>
      have h1 : u1 = .int .u64 _ := h1
      subst h1
      exact ⟨by rw [hu], hB⟩
  sw W hW f p g hf hp hg := by
    have h := fc_one (fcs_FC (rks := [.box (.pair (.int .u64) .unit) 6]) (FC80 n0) (vs := [.agg [.int .u64 (f : Int)], .c (.int .i64 (p : Int)), .c (.int .i64 (g : Int))]) (xs := (((f : Int), ()), (p : Int), (g : Int), ())) rfl ((congrFun (congrFun (congrFun (S80_D n0 rfl) _) _) _).trans (D80_sw hf hp hg)))
      (args := [.agg #[.int .u64 f], .int .i64 (p : Int), .int .i64 (g : Int)]) (fun b hb => hb) ⟨⟨[_], rfl, rfl, trivial⟩, rfl, rfl, trivial⟩ hW
    refine h.mono ?_
    rintro e W' ⟨i, u, A1, rfl, ⟨vs, hu, hvs⟩, hB⟩
    match vs, hvs with
    | [u1], ⟨h1, _⟩ =>
      have h1 : u1 = .int .u64 _ := h1
      subst h1
      exact ⟨by rw [hu], hB⟩
  list W hW f hf h0 := by
    have h := fc_one (fcs_FC (rks := [.own (.int .i64) 2]) (FC81 n0) (vs := [.c (.int .u64 (f : Int))]) (xs := ((f : Int), ())) rfl ((congrFun (S81_D n0 rfl) _).trans (D81_eq hf)))
      (args := [.int .u64 f]) (fun b hb => hb) ⟨rfl, trivial⟩ hW
    refine h.mono ?_
    rintro e W' ⟨i, u, A1, rfl, ⟨ho, hs, hb⟩, hB⟩
    cases i with
    | emp =>
      have ho : (bitsF f).map (fun (y : Nat) => (y : Int)) = [] := ho
      have := congrArg List.length ho
      rw [List.length_map, List.length_nil] at this
      omega
    | «at» b c =>
      obtain ⟨_, ho1, cur, et, ho2, ho3, ho4⟩ := ho
      obtain ⟨rfl, _, _⟩ := hs
      have e1 : ((bitsF f).map (fun (y : Nat) => (y : Int))).length = (bitsF f).length := List.length_map _
      refine ⟨b, c, by rw [e1], (hb b c rfl).1, ⟨cur, et, ho2, fun i hi => ?_⟩, hB⟩
      have h4 := ho4 i ((bitsF f)[i] : Int) (by simp [List.getElem?_map, hi])
      have h5 : (cur.toList.drop (i * 1)).take 1 = [.int .i64 ((bitsF f)[i] : Int)] := h4
      rw [Nat.mul_one] at h5
      have h6 := congrArg (fun l => l[0]?) h5
      have h7 : cur.toList[i]? = some (.int .i64 ((bitsF f)[i] : Int)) := by simpa [List.getElem?_take, List.getElem?_drop] using h6
      rw [← Array.getElem?_toList, h7]
theorem HC17 (n : Nat × Nat) (xs : pksDen [.c (.pair (.int .i64) (.sl (.int .i64)))]) (r : rksDen [.c (.int .i64) 0, .c (.int .i64) 0]) (h : HF17 xs.1 = some r) (vs : List V) (hv : pksArg [.c (.pair (.int .i64) (.sl (.int .i64)))] vs = some xs) :
    FC Tryd.prog 17 vs (rets [.c (.int .i64) 0, .c (.int .i64) 0] r) := by
  obtain ⟨⟨room, zs⟩, ⟨⟩⟩ := xs
  unfold HF17 at h
  obtain ⟨hd, h⟩ := cond_some h rfl
  simp only [Bool.and_eq_true, decide_eq_true_eq, List.all_eq_true] at hd
  obtain ⟨⟨⟨hr1, hr5⟩, hl⟩, hz⟩ := hd
  have hr1 : 1 ≤ room := hr1
  have hr5 : room ≤ 5 := hr5
  have hl : zs.length ≤ 12 := hl
  have hz : ∀ z ∈ zs, 0 ≤ z ∧ z < 6 := hz
  cases h
  intro w A0 args hA hargs hgl
  have hv2 := pksArg_VR _ _ _ _ hv hargs
  match args, hv2 with
  | [v1], ⟨g0, _⟩ =>
    obtain ⟨us, rfl, hus⟩ := g0
    match us, hus with
    | [u1, u2], ⟨h1, h2, _⟩ =>
      have h1 : u1 = .int .i64 room := h1
      subst h1
      have h2 : CR w A0 (.sl (.int .i64) zs false) u2 := h2
      obtain ⟨a, cap, rfl, hcap, _, hr⟩ := id h2
      obtain ⟨k, rfl⟩ := Int.eq_ofNat_of_zero_le (Int.le_trans (show (0 : Int) ≤ 1 by decide) hr1)
      have hmon : ∀ {W : World}, Below w.heap.size w W → ∀ b, A0 b → A0 b ∧ W.heap[b]? = w.heap[b]? := fun hB b hb => ⟨hb, hB.block b (hA b hb)⟩
      have hk1 : (1 : Int) ≤ (k : Int) := hr1
      have hk5 : (k : Int) ≤ 5 := hr5
      have hk0 : 1 ≤ k ∧ k ≤ 5 := by omega
      have hbd := Vs_bd (room := k) (by omega) hl 0 0
      have key := fewest_in (room := k) a zs.length cap (Vs k zs 0 0) (fun W' => Below w.heap.size w W') w hbd.1 hbd.2
        (fun W hW => by
          have hc := fc_one (fcs_FC (rks := [.c (.int .i64) 2]) (FC46 n0) (vs := [.agg [.int .i64 (k : Int), .sl (.int .i64) zs false]]) (xs := (((k : Int), zs), ())) rfl ((congrFun (S46_D n0 rfl) _).trans (D46_ok k zs hr1 hr5 hl hz)))
            (w := W) (A := A0) (args := [.agg #[.int .i64 k, .slice a zs.length cap]]) (fun b hb => Nat.lt_of_lt_of_le (hA b hb) hW.size) ⟨⟨[_, _], rfl, rfl, CR.mono (hmon hW) _ _ h2, trivial⟩, trivial⟩ (hgl.mono hW.size (hmon hW))
          refine hc.mono ?_
          rintro e W' ⟨i, u, A1, rfl, hu, hB⟩
          have hu : u = .int .i64 0 := hu
          exact ⟨by rw [hu], hB⟩)
        (fun W hW => by
          have hb0 : ∀ b, A0 b → b < W.heap.size := fun b hb => Nat.lt_of_lt_of_le (hA b hb) hW.size
          have hcl := least_all (calls3 (room := k) (by omega)) (by omega) zs hl hz a cap W.heap.size zs.length 0 0 (tblI k a zs.length cap) (W.alloc (.cells (tblI k a zs.length cap) 106)) (by omega) (by omega)
            (fun W' hg => hgl.mono (A' := fun b => b < W'.heap.size) (Nat.le_trans hW.size (Nat.le_trans (by simp) hg.size)) fun b hb => by
              have h3 : b < (W.alloc (.cells (tblI k a zs.length cap) 106)).heap.size := by have := hb0 b hb; simp; omega
              refine ⟨Nat.lt_of_lt_of_le h3 hg.size, ?_⟩
              rw [hg.block b h3 (by have := hb0 b hb; simp; omega)]
              exact ((World.grownBy_alloc W _ none).block b (hb0 b hb) (by simp)).trans (hW.block b (hA b hb)))
            ⟨Blk.new W _ _, tblI_size _ _ _ _, tblI_0 _ _ _ _, tblI_1 _ _ _ _, tblI_known _ _ _ _ _⟩
            (fun j hj => by
              rcases hr with hr | ⟨b, o, cur, et, fz, ha, hb, hc, hlen, hx⟩
              · rw [hr] at hj; simp at hj
              · refine ⟨b, o, ha, by have := hb0 b hb; omega, by have := hb0 b hb; simp; omega, ?_⟩
                have h1 := hx j zs[j] (by simp)
                have h2 : (cur.toList.drop (o + j * 1)).take 1 = [.int .i64 zs[j]] := h1
                have h3 : cur.toList[o + j]? = some (.int .i64 zs[j]) := by
                  rw [Nat.mul_one] at h2
                  have := congrArg (fun l => l[0]?) h2
                  simpa [List.getElem?_take, List.getElem?_drop] using this
                have h4 : cur[o + j]? = some (.int .i64 zs[j]) := by rw [← Array.getElem?_toList]; exact h3
                have h5 : (W.alloc (.cells (tblI k a zs.length cap) 106)).heap[b]? = some (.cells cur et fz) := ((World.grownBy_alloc W _ none).block b (hb0 b hb) (by simp)).trans ((hW.block b (hA b hb)).trans hc)
                show (match (W.alloc (.cells (tblI k a zs.length cap) 106)).heap[b]? with | some (.cells c _ _) => c[o + j]? | _ => none) = _
                rw [h5]
                exact h4)
          refine hcl.mono ?_
          rintro e W' ⟨pl, cur', rfl, hT, hg⟩
          refine ⟨pl, rfl, hW.trans ?_⟩
          have h6 := hW.size
          have h7 : (W.alloc (.cells (tblI k a zs.length cap) 106)).heap.size = W.heap.size + 1 := by simp
          refine Below.mono ?_ h6
          refine ⟨hg.os, hg.tape, hg.output, Nat.le_trans (by omega) hg.size, fun b h3 => by
            rw [hg.block b (by simp; omega) (by simp; omega)]
            exact (World.grownBy_alloc W _ none).block b h3 (by simp)⟩)
      refine key.mono ?_
      rintro e W' ⟨rfl, hB⟩
      exact ⟨Grows.of_below hB, [.emp, .emp], [_, _], rfl, rfl, fun b c h => (by cases h), rfl, fun b c h => (by cases h), trivial⟩
end Go.Proofs.YtkfkbebinhkdlaaDoor
set_option linter.unusedVariables false
set_option linter.unusedSimpArgs false
set_option maxRecDepth 100000
namespace Go.Proofs.YtkfkbebinhkdlaaDoor
open Go.Vi
abbrev R17 := Int × Int
def pk17 : List PK := [.c (.pair (.int .i64) (.sl (.int .i64)))]
def rk17 : List RK := [.c (.int .i64) 0, .c (.int .i64) 0]
noncomputable def S17 (n : Nat × Nat) (j0 : Int × List Int) : Option R17 := HF17 j0
noncomputable def P17 (n : Nat × Nat) := phiOf pk17 rk17 (fun xs => S17 n xs.1)
theorem call17 : CallOK Tryd.prog 17 := callOK_of Tryd.func17 (by kernel_rfl) (by kernel_rfl)
theorem FC17 (n : Nat × Nat) : FCs Tryd.prog 17 (P17 n) := phiOf_FCs fun xs r h vs hv => HC17 n xs r h vs hv
abbrev R48 := Int
noncomputable def c48 : Code := bodyOf Tryd.f48
noncomputable def an48 : Ann := (.s .l (.s (.j [0, 23, 24, 25, 28, 29, 30, 33, 34, 35] (.s .l (.j [0, 23, 24, 25, 28, 29, 30, 33, 34, 35] .l (.s .l (.j [0, 23, 24, 25, 28, 29, 30, 33, 34, 35] .l .l)))) .l) (.s (.s .l (.j [] (.j [13, 14, 15, 23, 24, 25, 28, 29, 30, 33, 34, 35] (.s .l (.s (.j [13, 14, 15, 23, 24, 25, 28, 29, 30, 33, 34, 35] .l .l) (.s (.j [13, 14, 15, 23, 24, 25, 28, 29, 30, 33, 34, 35] (.s .l (.s .l (.j [13, 14, 15, 23, 24, 25, 28, 29, 30, 33, 34, 35] .l .l))) .l) .l))) .l) .l)) .l)))
def pk48 : List PK := [.c (.sl (.pair (.int .i64) (.int .i64)))]
def rk48 : List RK := [.c (.int .i64) 2]
noncomputable def rt48 (st : St) : Option R48 := rtG rk48 st
noncomputable def E48 (n : Nat × Nat) : Env := { T := tab, phi := noPhi, eff := fun _ => false, fuel := n.1, hold := n.2 }
noncomputable def kq48_6 (n : Nat × Nat) : St → Option R48 := run (E48 n) (cB (cB (cB c48))) (Ann.snd (Ann.snd (Ann.snd an48))) rt48 (fun _ _ => none) rt48
noncomputable def xb48_8 (n : Nat × Nat) : Nat → St → Option R48 := fun j s => bif Nat.beq j 1 then normC [] s (kq48_6 n) else (fun _ _ => none) j s
noncomputable def F48_9 (n : Nat × Nat) : (St → Option R48) → St → Option R48 := fun K s => run (E48 n) (cA (cA (cB (cA (cB (cB c48)))))) (Ann.fst (Ann.fst (Ann.snd (Ann.fst (Ann.snd (Ann.snd an48)))))) (fun s => normC [13, 14, 15, 23, 24, 25, 28, 29, 30, 33, 34, 35] s K) (xb48_8 n) rt48 s
noncomputable def L48_1 (n : Nat × Nat) (m : Nat) (v13 : List (Int × Int)) (v14 : Int) (v15 : Int) : Option R48 := loopN (F48_9 n) m { tm := [uu, uu, uu, uu, uu, uu, uu, uu, uu, uu, uu, uu, uu, .c (.sl (.pair (.int .i64) (.int .i64)) v13 false), .c (.int .i64 v14), .c (.int .i64 v15), uu, uu, uu, uu, uu, uu, uu, uu, uu, uu, uu, uu, uu, uu, uu, uu, uu, uu, uu, uu, uu, uu], hp := emp }
theorem L48_1_eq (n : Nat × Nat) (m1 : Nat) (v13 : List (Int × Int)) (v14 : Int) (v15 : Int) : L48_1 n (m1 + 1) v13 v14 v15 =
 (bif decide (v15 < v14) then (idx v13 v15).bind fun x1' =>
 ((bif (decide (x1'.1 < 0) == false) then some (decide (x1'.1 > 100))
 else some true)).bind fun b2' =>
 ((bif (b2' == false) then some (decide (x1'.2 < 1))
 else some true)).bind fun b3' =>
 ((bif (b3' == false) then some (decide (x1'.2 > 9))
 else some true)).bind fun b4' =>
 (bif b4' then some 1
 else L48_1 n m1 v13 v14 (wr .i64 (v15 + 1)))
 else some 0) := by kernel_rfl
noncomputable def S48 (n : Nat × Nat) (l0 : List (Int × Int)) : Option R48 := run (E48 n) c48 an48 rt48 (fun _ _ => none) rt48 { tm := [.c (.sl (.pair (.int .i64) (.int .i64)) l0 false), uu, uu, uu, uu, uu, uu, uu, uu, uu, uu, uu, uu, uu, uu, uu, uu, uu, uu, uu, uu, uu, uu, uu, uu, uu, uu, uu, uu, uu, uu, uu, uu, uu, uu, uu, uu, uu], hp := emp }
theorem S48_eq (n : Nat × Nat) (l0 : List (Int × Int)) : S48 n l0 =
 (bif ((l0.length : Int) == 0) then some 4
 else (bif decide ((l0.length : Int) > 8) then some 3
 else L48_1 n n.1 l0 (l0.length : Int) 0)) := by kernel_rfl
theorem S48_run (n : Nat × Nat) (xs : pksDen pk48) : S48 n xs.1 = runG (E48 n) noScope c48 an48 (rtG rk48) (fun _ _ => none) (rtG rk48) (st0 pk48 xs Tryd.f48.ntmps) := by kernel_rfl
noncomputable def P48 (n : Nat × Nat) := phiOf pk48 rk48 (fun xs => S48 n xs.1)
theorem call48 : CallOK Tryd.prog 48 := callOK_of Tryd.func48 (by kernel_rfl) (by kernel_rfl)
theorem env48 (n : Nat × Nat) : EnvOK Tryd.prog (E48 n) := envOK0 noPhi_ok rfl rfl
theorem par48 (n : Nat × Nat) : EnvPar (E48 n) := envPar0 noPhi_par rfl
theorem FC48 (n : Nat × Nat) : FCs Tryd.prog 48 (P48 n) := phiOf_FCs fun xs r h vs hv => FC.of_runG tabOK eqsOK (env48 n) (par48 n) mixed (fun _ p _ => noScope_ok p.1 p.2) Tryd.func48 (c := c48) (an := an48) (pks := pk48) (rks := rk48) (by kernel_rfl) (by kernel_rfl) hv ((S48_run n xs).symm.trans h)
abbrev R18 := Int × Int
noncomputable def c18 : Code := bodyOf Tryd.f18
noncomputable def an18 : Ann := (.s .l (.s (.s .l (.s .l (.j [0] .l .l))) (.s (.s .l (.j [] (.j [0, 13, 14] (.s .l (.s (.j [0, 13, 14] .l .l) (.s (.j [0, 13, 14] (.s .l (.s .l (.j [0, 13, 14] .l .l))) .l) .l))) .l) .l)) .l)))
def pk18 : List PK := [.c (.sl (.pair (.int .i64) (.int .i64)))]
def rk18 : List RK := [.c (.int .i64) 2, .c (.int .i64) 3]
noncomputable def rt18 (st : St) : Option R18 := rtG rk18 st
noncomputable def E18 (n : Nat × Nat) : Env := { T := tab, phi := (consPhi 48 (fun _ => true) (P48 n) noPhi), eff := fun _ => false, fuel := n.1, hold := n.2 }
noncomputable def kq18_3 (n : Nat × Nat) : St → Option R18 := run (E18 n) (cB (cB (cB c18))) (Ann.snd (Ann.snd (Ann.snd an18))) rt18 (fun _ _ => none) rt18
noncomputable def xb18_5 (n : Nat × Nat) : Nat → St → Option R18 := fun j s => bif Nat.beq j 0 then normC [] s (kq18_3 n) else (fun _ _ => none) j s
noncomputable def F18_6 (n : Nat × Nat) : (St → Option R18) → St → Option R18 := fun K s => run (E18 n) (cA (cA (cB (cA (cB (cB c18)))))) (Ann.fst (Ann.fst (Ann.snd (Ann.fst (Ann.snd (Ann.snd an18)))))) (fun s => normC [0, 13, 14] s K) (xb18_5 n) rt18 s
noncomputable def L18_1 (n : Nat × Nat) (m : Nat) (l0 : List (Int × Int)) (v13 : Int) (v14 : Int) : Option R18 := loopN (F18_6 n) m { tm := [.c (.sl (.pair (.int .i64) (.int .i64)) l0 false), uu, uu, uu, uu, uu, uu, uu, uu, uu, uu, uu, uu, .c (.int .i64 v13), .c (.int .i64 v14), uu, uu, uu, uu, uu, uu, uu, uu, uu, uu, uu, uu, uu, uu, uu, uu], hp := emp }
theorem L18_1_eq (n : Nat × Nat) (m1 : Nat) (l0 : List (Int × Int)) (v13 : Int) (v14 : Int) : L18_1 n (m1 + 1) l0 v13 v14 =
 (bif decide (v14 < v13) then (idx l0 v14).bind fun x2' =>
 (idx l0 (wr .i64 (v14 + 1))).bind fun x3' =>
 (bif decide (x2'.1 > x3'.1) then some (v14, 0)
 else L18_1 n m1 l0 v13 (wr .i64 (v14 + 1)))
 else some (0, 13)) := by kernel_rfl
noncomputable def S18 (n : Nat × Nat) (l0 : List (Int × Int)) : Option R18 := run (E18 n) c18 an18 rt18 (fun _ _ => none) rt18 { tm := [.c (.sl (.pair (.int .i64) (.int .i64)) l0 false), uu, uu, uu, uu, uu, uu, uu, uu, uu, uu, uu, uu, uu, uu, uu, uu, uu, uu, uu, uu, uu, uu, uu, uu, uu, uu, uu, uu, uu, uu], hp := emp }
theorem S18_eq (n : Nat × Nat) (l0 : List (Int × Int)) : S18 n l0 =
 (S48 n l0).bind fun r1' =>
 (bif (r1' != 0) then some (0, r1')
 else L18_1 n n.1 l0 (wr .i64 ((l0.length : Int) - 1)) 0) := by kernel_rfl
theorem S18_run (n : Nat × Nat) (xs : pksDen pk18) : S18 n xs.1 = runG (E18 n) noScope c18 an18 (rtG rk18) (fun _ _ => none) (rtG rk18) (st0 pk18 xs Tryd.f18.ntmps) := by kernel_rfl
noncomputable def P18 (n : Nat × Nat) := phiOf pk18 rk18 (fun xs => S18 n xs.1)
theorem call18 : CallOK Tryd.prog 18 := callOK_of Tryd.func18 (by kernel_rfl) (by kernel_rfl)
theorem env18 (n : Nat × Nat) : EnvOK Tryd.prog (E18 n) := envOK0 (consPhi_ok (FC48 n) call48 noPhi_ok) rfl rfl
theorem par18 (n : Nat × Nat) : EnvPar (E18 n) := envPar0 (consPhi_par phiOf_Par1 noPhi_par) rfl
theorem FC18 (n : Nat × Nat) : FCs Tryd.prog 18 (P18 n) := phiOf_FCs fun xs r h vs hv => FC.of_runG tabOK eqsOK (env18 n) (par18 n) mixed (fun _ p _ => noScope_ok p.1 p.2) Tryd.func18 (c := c18) (an := an18) (pks := pk18) (rks := rk18) (by kernel_rfl) (by kernel_rfl) hv ((S18_run n xs).symm.trans h)
abbrev R136 := Int
noncomputable def c136 : Code := bodyOf Tryd.f136
noncomputable def an136 : Ann := (.s .l (.s (.j [0] (.j [0, 1] (.s (.s .l (.j [0, 1] .l .l)) (.j [0, 1] .l .l)) .l) .l) .l))
def pk136 : List PK := [.c (.int .i64), .c (.int .i64)]
def rk136 : List RK := [.c (.int .i64) 4]
noncomputable def rt136 (st : St) : Option R136 := rtG rk136 st
noncomputable def E136 (n : Nat × Nat) : Env := { T := tab, phi := noPhi, eff := fun _ => false, fuel := n.1, hold := n.2 }
noncomputable def kq136_1 (n : Nat × Nat) : St → Option R136 := run (E136 n) (cB (cB c136)) (Ann.snd (Ann.snd an136)) rt136 (fun _ _ => none) rt136
noncomputable def xb136_3 (n : Nat × Nat) : Nat → St → Option R136 := fun j s => bif Nat.beq j 0 then normC [0] s (kq136_1 n) else (fun _ _ => none) j s
noncomputable def F136_4 (n : Nat × Nat) : (St → Option R136) → St → Option R136 := fun K s => run (E136 n) (cA (cA (cA (cB c136)))) (Ann.fst (Ann.fst (Ann.fst (Ann.snd an136)))) (fun s => normC [0, 1] s K) (xb136_3 n) rt136 s
noncomputable def L136_1 (n : Nat × Nat) (m : Nat) (a0 : Int) (b1 : Int) : Option R136 := loopN (F136_4 n) m { tm := [.c (.int .i64 a0), .c (.int .i64 b1), uu, uu, uu, uu, uu, uu, uu, uu, uu, uu], hp := emp }
theorem L136_1_eq (n : Nat × Nat) (m1 : Nat) (a0 : Int) (b1 : Int) : L136_1 n (m1 + 1) a0 b1 =
 (bif (b1 != 0) then (bif b1 == 0 then none
 else L136_1 n m1 b1 (Int.tmod a0 b1))
 else some a0) := by kernel_rfl
noncomputable def S136 (n : Nat × Nat) (a0 : Int) (b1 : Int) : Option R136 := run (E136 n) c136 an136 rt136 (fun _ _ => none) rt136 { tm := [.c (.int .i64 a0), .c (.int .i64 b1), uu, uu, uu, uu, uu, uu, uu, uu, uu, uu], hp := emp }
theorem S136_eq (n : Nat × Nat) (a0 : Int) (b1 : Int) : S136 n a0 b1 =
    L136_1 n n.1 a0 b1 := by kernel_rfl
theorem S136_run (n : Nat × Nat) (xs : pksDen pk136) : S136 n xs.1 xs.2.1 = runG (E136 n) noScope c136 an136 (rtG rk136) (fun _ _ => none) (rtG rk136) (st0 pk136 xs Tryd.f136.ntmps) := by kernel_rfl
noncomputable def P136 (n : Nat × Nat) := phiOf pk136 rk136 (fun xs => S136 n xs.1 xs.2.1)
theorem call136 : CallOK Tryd.prog 136 := callOK_of Tryd.func136 (by kernel_rfl) (by kernel_rfl)
theorem env136 (n : Nat × Nat) : EnvOK Tryd.prog (E136 n) := envOK0 noPhi_ok rfl rfl
theorem par136 (n : Nat × Nat) : EnvPar (E136 n) := envPar0 noPhi_par rfl
theorem FC136 (n : Nat × Nat) : FCs Tryd.prog 136 (P136 n) := phiOf_FCs fun xs r h vs hv => FC.of_runG tabOK eqsOK (env136 n) (par136 n) mixed (fun _ p _ => noScope_ok p.1 p.2) Tryd.func136 (c := c136) (an := an136) (pks := pk136) (rks := rk136) (by kernel_rfl) (by kernel_rfl) hv ((S136_run n xs).symm.trans h)
abbrev R125 := Int × Int
noncomputable def c125 : Code := bodyOf Tryd.f125
noncomputable def an125 : Ann := .l
def pk125 : List PK := [.c (.int .i64), .c (.int .i64)]
def rk125 : List RK := [.box (.pair (.int .i64) (.int .i64)) 4]
noncomputable def rt125 (st : St) : Option R125 := rtG rk125 st
noncomputable def E125 (n : Nat × Nat) : Env := { T := tab, phi := (consPhi 136 (fun _ => true) (P136 n) noPhi), eff := fun _ => false, fuel := n.1, hold := n.2 }
noncomputable def S125 (n : Nat × Nat) (num0 : Int) (den1 : Int) : Option R125 := run (E125 n) c125 an125 rt125 (fun _ _ => none) rt125 { tm := [.c (.int .i64 num0), .c (.int .i64 den1), uu, uu, uu, uu, uu, uu, uu, uu, uu, uu, uu, uu, uu, uu, uu, uu, uu], hp := emp }
theorem S125_eq (n : Nat × Nat) (num0 : Int) (den1 : Int) : S125 n num0 den1 =
 (S136 n (if (wr .i64 (0 - num0)) > num0 then (wr .i64 (0 - num0)) else num0) den1).bind fun r1' =>
 (bif r1' == 0 then none
 else (bif r1' == 0 then none
 else some (wr .i64 (Int.tdiv num0 r1'), wr .i64 (Int.tdiv den1 r1')))) := by kernel_rfl
theorem S125_run (n : Nat × Nat) (xs : pksDen pk125) : S125 n xs.1 xs.2.1 = runG (E125 n) noScope c125 an125 (rtG rk125) (fun _ _ => none) (rtG rk125) (st0 pk125 xs Tryd.f125.ntmps) := by kernel_rfl
noncomputable def P125 (n : Nat × Nat) := phiOf pk125 rk125 (fun xs => S125 n xs.1 xs.2.1)
theorem call125 : CallOK Tryd.prog 125 := callOK_of Tryd.func125 (by kernel_rfl) (by kernel_rfl)
theorem env125 (n : Nat × Nat) : EnvOK Tryd.prog (E125 n) := envOK0 (consPhi_ok (FC136 n) call136 noPhi_ok) rfl rfl
theorem par125 (n : Nat × Nat) : EnvPar (E125 n) := envPar0 (consPhi_par phiOf_Par1 noPhi_par) rfl
theorem FC125 (n : Nat × Nat) : FCs Tryd.prog 125 (P125 n) := phiOf_FCs fun xs r h vs hv => FC.of_runG tabOK eqsOK (env125 n) (par125 n) mixed (fun _ p _ => noScope_ok p.1 p.2) Tryd.func125 (c := c125) (an := an125) (pks := pk125) (rks := rk125) (by kernel_rfl) (by kernel_rfl) hv ((S125_run n xs).symm.trans h)
abbrev R110 := Int × Int
noncomputable def c110 : Code := bodyOf Tryd.f110
noncomputable def an110 : Ann := (.s .l (.s .l (.s (.s .l (.j [2, 3, 4] (.j [2, 3, 4, 7, 8, 9] (.s .l (.s (.j [2, 3, 4, 7, 8, 9] .l .l) (.s (.j [2, 3, 4, 7, 8, 9] .l .l) .l))) .l) .l)) .l)))
def pk110 : List PK := [.c (.sl (.pair (.int .i64) (.int .i64)))]
def rk110 : List RK := [.box (.pair (.int .i64) (.int .i64)) 2]
noncomputable def rt110 (st : St) : Option R110 := rtG rk110 st
noncomputable def E110 (n : Nat × Nat) : Env := { T := tab, phi := (consPhi 125 (fun _ => true) (P125 n) noPhi), eff := fun _ => false, fuel := n.1, hold := n.2 }
noncomputable def kq110_1 (n : Nat × Nat) : St → Option R110 := run (E110 n) (cB (cB (cB c110))) (Ann.snd (Ann.snd (Ann.snd an110))) rt110 (fun _ _ => none) rt110
noncomputable def xb110_3 (n : Nat × Nat) : Nat → St → Option R110 := fun j s => bif Nat.beq j 0 then normC [2, 3, 4] s (kq110_1 n) else (fun _ _ => none) j s
noncomputable def F110_4 (n : Nat × Nat) : (St → Option R110) → St → Option R110 := fun K s => run (E110 n) (cA (cA (cB (cA (cB (cB c110)))))) (Ann.fst (Ann.fst (Ann.snd (Ann.fst (Ann.snd (Ann.snd an110)))))) (fun s => normC [2, 3, 4, 7, 8, 9] s K) (xb110_3 n) rt110 s
noncomputable def L110_1 (n : Nat × Nat) (m : Nat) (sum3 : Int) (trust4 : Int) (v7 : List (Int × Int)) (v8 : Int) (v9 : Int) (v2_0 : Int) (v2_1 : Int) : Option R110 := loopN (F110_4 n) m { tm := [uu, uu, .ptr 2 0, .c (.int .i64 sum3), .c (.int .i64 trust4), uu, uu, .c (.sl (.pair (.int .i64) (.int .i64)) v7 false), .c (.int .i64 v8), .c (.int .i64 v9), uu, uu, uu, uu, uu, uu, uu, uu, uu, uu, uu, uu, uu, uu, uu, uu, uu, uu], hp := (upd emp 2 (.box [.int .i64 v2_0, .int .i64 v2_1])) }
theorem L110_1_eq (n : Nat × Nat) (m1 : Nat) (sum3 : Int) (trust4 : Int) (v7 : List (Int × Int)) (v8 : Int) (v9 : Int) (v2_0 : Int) (v2_1 : Int) : L110_1 n (m1 + 1) sum3 trust4 v7 v8 v9 v2_0 v2_1 =
 (bif decide (v9 < v8) then (idx v7 v9).bind fun x1' =>
      L110_1 n m1 (wr .i64 (sum3 + (wr .i64 (x1'.1 * x1'.2)))) (wr .i64 (trust4 + x1'.2)) v7 v8 (wr .i64 (v9 + 1)) v2_0 v2_1
 else (S125 n sum3 trust4).bind fun r2' =>
 some r2') := by kernel_rfl
noncomputable def S110 (n : Nat × Nat) (l0 : List (Int × Int)) : Option R110 := run (E110 n) c110 an110 rt110 (fun _ _ => none) rt110 { tm := [.c (.sl (.pair (.int .i64) (.int .i64)) l0 false), uu, uu, uu, uu, uu, uu, uu, uu, uu, uu, uu, uu, uu, uu, uu, uu, uu, uu, uu, uu, uu, uu, uu, uu, uu, uu, uu], hp := emp }
theorem S110_eq (n : Nat × Nat) (l0 : List (Int × Int)) : S110 n l0 =
    L110_1 n n.1 0 0 l0 (l0.length : Int) 0 0 0 := by kernel_rfl
theorem S110_run (n : Nat × Nat) (xs : pksDen pk110) : S110 n xs.1 = runG (E110 n) noScope c110 an110 (rtG rk110) (fun _ _ => none) (rtG rk110) (st0 pk110 xs Tryd.f110.ntmps) := by kernel_rfl
noncomputable def P110 (n : Nat × Nat) := phiOf pk110 rk110 (fun xs => S110 n xs.1)
theorem call110 : CallOK Tryd.prog 110 := callOK_of Tryd.func110 (by kernel_rfl) (by kernel_rfl)
theorem env110 (n : Nat × Nat) : EnvOK Tryd.prog (E110 n) := envOK0 (consPhi_ok (FC125 n) call125 noPhi_ok) rfl rfl
theorem par110 (n : Nat × Nat) : EnvPar (E110 n) := envPar0 (consPhi_par phiOf_Par1 noPhi_par) rfl
theorem FC110 (n : Nat × Nat) : FCs Tryd.prog 110 (P110 n) := phiOf_FCs fun xs r h vs hv => FC.of_runG tabOK eqsOK (env110 n) (par110 n) mixed (fun _ p _ => noScope_ok p.1 p.2) Tryd.func110 (c := c110) (an := an110) (pks := pk110) (rks := rk110) (by kernel_rfl) (by kernel_rfl) hv ((S110_run n xs).symm.trans h)
abbrev R111 := Int
noncomputable def c111 : Code := bodyOf Tryd.f111
noncomputable def an111 : Ann := .l
def pk111 : List PK := [.c (.pair (.int .i64) (.int .i64)), .c (.pair (.int .i64) (.int .i64))]
def rk111 : List RK := [.c (.int .i64) 4]
noncomputable def rt111 (st : St) : Option R111 := rtG rk111 st
noncomputable def E111 (n : Nat × Nat) : Env := { T := tab, phi := noPhi, eff := fun _ => false, fuel := n.1, hold := n.2 }
noncomputable def S111 (n : Nat × Nat) (a0 : Int × Int) (b1 : Int × Int) : Option R111 := run (E111 n) c111 an111 rt111 (fun _ _ => none) rt111 { tm := [.agg [.int .i64 a0.1, .int .i64 a0.2], .agg [.int .i64 b1.1, .int .i64 b1.2], uu, uu, uu, uu, uu, uu, uu, uu, uu, uu, uu, uu, uu, uu], hp := emp }
theorem S111_eq (n : Nat × Nat) (a0 : Int × Int) (b1 : Int × Int) : S111 n a0 b1 =
 some (wr .i64 ((wr .i64 (a0.1 * b1.2)) - (wr .i64 (b1.1 * a0.2)))) := by kernel_rfl
theorem S111_run (n : Nat × Nat) (xs : pksDen pk111) : S111 n xs.1 xs.2.1 = runG (E111 n) noScope c111 an111 (rtG rk111) (fun _ _ => none) (rtG rk111) (st0 pk111 xs Tryd.f111.ntmps) := by kernel_rfl
noncomputable def P111 (n : Nat × Nat) := phiOf pk111 rk111 (fun xs => S111 n xs.1 xs.2.1)
theorem call111 : CallOK Tryd.prog 111 := callOK_of Tryd.func111 (by kernel_rfl) (by kernel_rfl)
theorem env111 (n : Nat × Nat) : EnvOK Tryd.prog (E111 n) := envOK0 noPhi_ok rfl rfl
theorem par111 (n : Nat × Nat) : EnvPar (E111 n) := envPar0 noPhi_par rfl
theorem FC111 (n : Nat × Nat) : FCs Tryd.prog 111 (P111 n) := phiOf_FCs fun xs r h vs hv => FC.of_runG tabOK eqsOK (env111 n) (par111 n) mixed (fun _ p _ => noScope_ok p.1 p.2) Tryd.func111 (c := c111) (an := an111) (pks := pk111) (rks := rk111) (by kernel_rfl) (by kernel_rfl) hv ((S111_run n xs).symm.trans h)
/- slices.Reverse[[]headword/reign.Block,headword/reign.Block] -/
abbrev R112io1 := (Unit) × (List (Int × Int × Int × Int)) × Unit
noncomputable def c112io1 : Code := bodyOf Tryd.f112
noncomputable def an112io1 : Ann := (.s .l (.j [1000000000000] (.j [0, 2, 3, 1000000000000] (.s (.s .l (.j [0, 2, 3, 1000000000000] .l .l)) (.s (.j [0, 2, 3, 1000000000000] .l .l) .l)) .l) .l))
def pk112io1 : List QK := [.oa (.pair (.int .i64) (.pair (.int .i64) (.pair (.int .i64) (.int .i64))))]
def rk112io1 : List RK := []
noncomputable def rt112io1 (st : St) : Option R112io1 := rtIO rk112io1 (pk112io1.flatMap QK.ods) st
noncomputable def E112io1 (n : Nat × Nat) : Env := { T := tab, phi := noPhi, eff := fun _ => false, fuel := n.1, hold := n.2 }
noncomputable def xb112io1_2 (n : Nat × Nat) : Nat → St → Option R112io1 := fun j s => bif Nat.beq j 0 then normC [1000000000000] s rt112io1 else (fun _ _ => none) j s
noncomputable def F112io1_3 (n : Nat × Nat) : (St → Option R112io1) → St → Option R112io1 := fun K s => run (E112io1 n) (cA (cA (cB c112io1))) (Ann.fst (Ann.fst (Ann.snd an112io1))) (fun s => normC [0, 2, 3, 1000000000000] s K) (xb112io1_2 n) rt112io1 s
noncomputable def L112io1_1 (n : Nat × Nat) (m : Nat) (i2 : Int) (j3 : Int) (v1000000000000 : List (Int × Int × Int × Int)) : Option R112io1 := loopN (F112io1_3 n) m { tm := [.own 1000000000000 none false, uu, .c (.int .i64 i2), .c (.int .i64 j3), uu, uu, uu, uu, uu, uu, uu, uu, uu, uu, uu, uu, uu, uu, uu, uu, uu, uu, uu, uu, uu, uu, uu, uu], hp := (upd emp 1000000000000 (.arr (.pair (.int .i64) (.pair (.int .i64) (.pair (.int .i64) (.int .i64)))) v1000000000000 false)) }
theorem L112io1_1_eq (n : Nat × Nat) (m1 : Nat) (i2 : Int) (j3 : Int) (v1000000000000 : List (Int × Int × Int × Int)) : L112io1_1 n (m1 + 1) i2 j3 v1000000000000 =
 (bif decide (i2 < j3) then (bif inB j3 v1000000000000.length then (idx v1000000000000 j3).bind fun x1' =>
 (bif inB i2 v1000000000000.length then (idx v1000000000000 i2).bind fun x2' =>
 (bif inB i2 v1000000000000.length then (idx v1000000000000 i2).bind fun x3' =>
 (bif inB j3 (v1000000000000.set (Int.toNat i2) x1').length then (idx (v1000000000000.set (Int.toNat i2) x1') j3).bind fun x4' =>
              L112io1_1 n m1 (wr .i64 (i2 + 1)) (wr .i64 (j3 - 1)) ((v1000000000000.set (Int.toNat i2) x1').set (Int.toNat j3) x2')
 else none)
 else none)
 else none)
 else none)
 else some ((), v1000000000000, ())) := by kernel_rfl
noncomputable def S112io1 (n : Nat × Nat) (s0 : List (Int × Int × Int × Int)) : Option R112io1 := run (E112io1 n) c112io1 an112io1 rt112io1 (fun _ _ => none) rt112io1 { tm := [.own 1000000000000 none false, uu, uu, uu, uu, uu, uu, uu, uu, uu, uu, uu, uu, uu, uu, uu, uu, uu, uu, uu, uu, uu, uu, uu, uu, uu, uu, uu], hp := (upd emp 1000000000000 (.arr (.pair (.int .i64) (.pair (.int .i64) (.pair (.int .i64) (.int .i64)))) s0 false)) }
theorem S112io1_eq (n : Nat × Nat) (s0 : List (Int × Int × Int × Int)) : S112io1 n s0 =
    L112io1_1 n n.1 0 (wr .i64 ((s0.length : Int) - 1)) s0 := by kernel_rfl
theorem S112io1_run (n : Nat × Nat) (xs : qksDen pk112io1) : S112io1 n xs.1 = runG (E112io1 n) noScope c112io1 an112io1 (rtIO rk112io1 (pk112io1.flatMap QK.ods)) (fun _ _ => none) (rtIO rk112io1 (pk112io1.flatMap QK.ods)) (st1 pk112io1 xs Tryd.f112.ntmps) := by kernel_rfl
noncomputable def P112io1 (n : Nat × Nat) := phioOf pk112io1 rk112io1 (pk112io1.flatMap QK.ods) (fun xs => S112io1 n xs.1)
theorem call112 : CallOK Tryd.prog 112 := callOK_of Tryd.func112 (by kernel_rfl) (by kernel_rfl)
theorem env112io1 (n : Nat × Nat) : EnvOK Tryd.prog (E112io1 n) := envOK0 noPhi_ok rfl rfl
theorem par112io1 (n : Nat × Nat) : EnvPar (E112io1 n) := envPar0 noPhi_par rfl
theorem FC112io1 (n : Nat × Nat) : FCios Tryd.prog 112 (pk112io1.map QK.flag) (P112io1 n) := phioOf_FCios fun xs r h vs hv => FCio.of_runG tabOK eqsOK (env112io1 n) (par112io1 n) mixed (fun _ p _ => noScope_ok p.1 p.2) Tryd.func112 (c := c112io1) (an := an112io1) (qks := pk112io1) (rks := rk112io1) (by kernel_rfl) (by kernel_rfl) hv ((S112io1_run n xs).symm.trans h)
abbrev R82 := List (Int × Int × Int × Int)
noncomputable def c82 : Code := bodyOf Tryd.f82
noncomputable def an82 : Ann := (.s .l (.s .l (.s (.s .l (.j [0, 3] (.j [0, 3, 4, 37, 38, 39, 40, 41, 42] (.s (.s .l (.j [0, 3, 4, 37, 38, 39, 40, 41, 42] .l .l)) (.s (.j [0, 3, 4, 37, 38, 39, 40, 41, 42] (.s .l (.s (.s .l (.j [0, 3, 4, 5, 37, 38, 39, 40, 41, 42] (.j [0, 3, 4, 5, 6, 7, 37, 38, 39, 40, 41, 42] (.s (.s .l (.j [0, 3, 4, 5, 6, 37, 38, 39, 40, 41, 42] .l .l)) (.s (.j [0, 3, 4, 5, 6, 37, 38, 39, 40, 41, 42] .l .l) .l)) .l) .l)) .l)) .l) .l)) .l) .l)) (.s .l (.s (.s .l (.j [8] (.j [3, 8, 9] (.s (.s .l (.j [3, 8, 9] .l .l)) (.s (.j [3, 8, 9] .l .l) .l)) .l) .l)) .l)))))
def pk82 : List PK := [.c (.sl (.pair (.int .i64) (.int .i64)))]
def rk82 : List RK := [.own (.pair (.int .i64) (.pair (.int .i64) (.pair (.int .i64) (.int .i64)))) 2]
noncomputable def rt82 (st : St) : Option R82 := rtG rk82 st
noncomputable def io82 (n : Nat × Nat) : List IoE := [⟨112, (fun _ => true), pk112io1.map QK.flag, P112io1 n⟩]
noncomputable def E82 (n : Nat × Nat) : Env := { T := tab, phi := (consPhi 110 (fun _ => true) (P110 n) (consPhi 111 (fun _ => true) (P111 n) noPhi)), eff := fun _ => false, fuel := n.1, hold := n.2, phio := phioL (io82 n), iop := iopL (io82 n) }
noncomputable def kq82_1 (n : Nat × Nat) : St → Option R82 := run (E82 n) (cB (cB (cB c82))) (Ann.snd (Ann.snd (Ann.snd an82))) rt82 (fun _ _ => none) rt82
noncomputable def xb82_3 (n : Nat × Nat) : Nat → St → Option R82 := fun j s => bif Nat.beq j 0 then normC [0, 3] s (kq82_1 n) else (fun _ _ => none) j s
noncomputable def F82_4 (n : Nat × Nat) : (St → Option R82) → St → Option R82 := fun K s => run (E82 n) (cA (cA (cB (cA (cB (cB c82)))))) (Ann.fst (Ann.fst (Ann.snd (Ann.fst (Ann.snd (Ann.snd an82)))))) (fun s => normC [0, 3, 4, 37, 38, 39, 40, 41, 42] s K) (xb82_3 n) rt82 s
noncomputable def kq82_7 (n : Nat × Nat) (m1 : Nat) : St → Option R82 := run (E82 n) (cB (cB (cA (cA (cB (cA (cB (cB c82)))))))) (Ann.snd (Ann.snd (Ann.fst (Ann.fst (Ann.snd (Ann.fst (Ann.snd (Ann.snd an82)))))))) (fun s => normC [0, 3, 4, 37, 38, 39, 40, 41, 42] s (loopN (F82_4 n) m1)) (xb82_3 n) rt82
noncomputable def kc82_8 (n : Nat × Nat) (m1 : Nat) : St → Option R82 := fun s => normC [0, 3, 4, 37, 38, 39, 40, 41, 42] s (kq82_7 n m1)
noncomputable def xb82_9 (n : Nat × Nat) (m1 : Nat) : Nat → St → Option R82 := fun j s => bif Nat.beq j 1 then normC [0, 3, 4, 37, 38, 39, 40, 41, 42] s (kq82_7 n m1) else (xb82_3 n) j s
noncomputable def kq82_10 (n : Nat × Nat) (m1 : Nat) : St → Option R82 := run (E82 n) (cB (cB (cA (cA (cB (cA (cA (cB (cA (cB (cB c82))))))))))) (Ann.snd (Ann.snd (Ann.fst (Ann.fst (Ann.snd (Ann.fst (Ann.fst (Ann.snd (Ann.fst (Ann.snd (Ann.snd an82))))))))))) (kc82_8 n m1) (xb82_9 n m1) rt82
noncomputable def xb82_12 (n : Nat × Nat) (m1 : Nat) : Nat → St → Option R82 := fun j s => bif Nat.beq j 2 then normC [0, 3, 4, 5, 37, 38, 39, 40, 41, 42] s (kq82_10 n m1) else (xb82_9 n m1) j s
noncomputable def F82_13 (n : Nat × Nat) (m1 : Nat) : (St → Option R82) → St → Option R82 := fun K s => run (E82 n) (cA (cA (cB (cA (cB (cA (cA (cB (cA (cA (cB (cA (cB (cB c82)))))))))))))) (Ann.fst (Ann.fst (Ann.snd (Ann.fst (Ann.snd (Ann.fst (Ann.fst (Ann.snd (Ann.fst (Ann.fst (Ann.snd (Ann.fst (Ann.snd (Ann.snd an82)))))))))))))) (fun s => normC [0, 3, 4, 5, 6, 7, 37, 38, 39, 40, 41, 42] s K) (xb82_12 n m1) rt82 s
noncomputable def kq82_14 (n : Nat × Nat) : St → Option R82 := run (E82 n) (cB (cB (cB (cB (cB c82))))) (Ann.snd (Ann.snd (Ann.snd (Ann.snd (Ann.snd an82))))) rt82 (fun _ _ => none) rt82
noncomputable def xb82_16 (n : Nat × Nat) : Nat → St → Option R82 := fun j s => bif Nat.beq j 4 then normC [8] s (kq82_14 n) else (fun _ _ => none) j s
noncomputable def F82_17 (n : Nat × Nat) : (St → Option R82) → St → Option R82 := fun K s => run (E82 n) (cA (cA (cB (cA (cB (cB (cB (cB c82)))))))) (Ann.fst (Ann.fst (Ann.snd (Ann.fst (Ann.snd (Ann.snd (Ann.snd (Ann.snd an82)))))))) (fun s => normC [3, 8, 9] s K) (xb82_16 n) rt82 s
noncomputable def L82_1 (n : Nat × Nat) (m : Nat) (l0 : List (Int × Int)) (v4 : Int) (known3 : List (Int × Int × Int × Int × Int)) : Option R82 := loopN (F82_4 n) m { tm := [.c (.sl (.pair (.int .i64) (.int .i64)) l0 false), uu, uu, .map 3, .c (.int .i64 v4), uu, uu, uu, uu, uu, uu, uu, uu, uu, uu, uu, uu, uu, uu, uu, uu, uu, uu, uu, uu, uu, uu, uu, uu, uu, uu, uu, uu, uu, uu, uu, uu, uu, uu, uu, uu, uu, uu, uu, uu, uu, uu, uu, uu, uu, uu, uu, uu, uu, uu, uu, uu, uu, uu, uu, uu, uu, uu, uu, uu, uu, uu, uu, uu, uu, uu, uu, uu, uu, uu, uu, uu, uu, uu, uu, uu, uu, uu, uu, uu, uu], hp := (upd emp 3 (.mp .i64 (.pair (.int .i64) (.pair (.int .i64) (.pair (.int .i64) (.int .i64)))) known3)) }
noncomputable def L82_2 (n : Nat × Nat) (m1 : Nat) (m : Nat) (l0 : List (Int × Int)) (v4 : Int) (is7 : Bool) (known3 : List (Int × Int × Int × Int × Int)) (now5_0 : Int) (now5_1 : Int) (now5_2 : Int) (now5_3 : Int) (before6_0 : Int) (before6_1 : Int) (before6_2 : Int) (before6_3 : Int) : Option R82 := loopN (F82_13 n m1) m { tm := [.c (.sl (.pair (.int .i64) (.int .i64)) l0 false), uu, uu, .map 3, .c (.int .i64 v4), .ptr 5 0, .ptr 6 0, .c (.bool is7), uu, uu, uu, uu, uu, uu, uu, uu, uu, uu, uu, uu, uu, uu, uu, uu, uu, uu, uu, uu, uu, uu, uu, uu, uu, uu, uu, uu, uu, uu, uu, uu, uu, uu, uu, uu, uu, uu, uu, uu, uu, uu, uu, uu, uu, uu, uu, uu, uu, uu, uu, uu, uu, uu, uu, uu, uu, uu, uu, uu, uu, uu, uu, uu, uu, uu, uu, uu, uu, uu, uu, uu, uu, uu, uu, uu, uu, uu], hp := (upd (upd (upd emp 6 (.box [.int .i64 before6_0, .int .i64 before6_1, .int .i64 before6_2, .int .i64 before6_3])) 5 (.box [.int .i64 now5_0, .int .i64 now5_1, .int .i64 now5_2, .int .i64 now5_3])) 3 (.mp .i64 (.pair (.int .i64) (.pair (.int .i64) (.pair (.int .i64) (.int .i64)))) known3)) }
noncomputable def L82_3 (n : Nat × Nat) (m : Nat) (v9 : Int) (known3 : List (Int × Int × Int × Int × Int)) (out8 : List (Int × Int × Int × Int)) : Option R82 := loopN (F82_17 n) m { tm := [uu, uu, uu, .map 3, uu, uu, uu, uu, .own 8 none false, .c (.int .i64 v9), uu, uu, uu, uu, uu, uu, uu, uu, uu, uu, uu, uu, uu, uu, uu, uu, uu, uu, uu, uu, uu, uu, uu, uu, uu, uu, uu, uu, uu, uu, uu, uu, uu, uu, uu, uu, uu, uu, uu, uu, uu, uu, uu, uu, uu, uu, uu, uu, uu, uu, uu, uu, uu, uu, uu, uu, uu, uu, uu, uu, uu, uu, uu, uu, uu, uu, uu, uu, uu, uu, uu, uu, uu, uu, uu, uu], hp := (upd (upd emp 8 (.arr (.pair (.int .i64) (.pair (.int .i64) (.pair (.int .i64) (.int .i64)))) out8 false)) 3 (.mp .i64 (.pair (.int .i64) (.pair (.int .i64) (.pair (.int .i64) (.int .i64)))) known3)) }
theorem L82_1_eq (n : Nat × Nat) (m1 : Nat) (l0 : List (Int × Int)) (v4 : Int) (known3 : List (Int × Int × Int × Int × Int)) : L82_1 n (m1 + 1) l0 v4 known3 =
 (bif decide (v4 ≤ (l0.length : Int)) then (bif (v4 == v4) && bounds (some (wr .i64 (v4 - 1))) (some v4) (some v4) l0.length then (S110 n ((l0.take (Int.toNat v4)).drop (Int.toNat (wr .i64 (v4 - 1))))).bind fun r1' =>
        L82_2 n m1 n.1 l0 v4 ((alook known3 (wr .i64 (v4 - 1))).isSome) known3 (wr .i64 (v4 - 1)) v4 r1'.1 r1'.2 (((alook known3 (wr .i64 (v4 - 1))).getD (0, 0, 0, 0)).1) ((((alook known3 (wr .i64 (v4 - 1))).getD (0, 0, 0, 0)).2).1) (((((alook known3 (wr .i64 (v4 - 1))).getD (0, 0, 0, 0)).2).2).1) (((((alook known3 (wr .i64 (v4 - 1))).getD (0, 0, 0, 0)).2).2).2)
 else none)
 else L82_3 n n.1 (l0.length : Int) known3 []) := by kernel_rfl
theorem L82_2_eq (n : Nat × Nat) (m1 m2 : Nat) (l0 : List (Int × Int)) (v4 : Int) (is7 : Bool) (known3 : List (Int × Int × Int × Int × Int)) (now5_0 : Int) (now5_1 : Int) (now5_2 : Int) (now5_3 : Int) (before6_0 : Int) (before6_1 : Int) (before6_2 : Int) (before6_3 : Int) : L82_2 n m1 (m2 + 1) l0 v4 is7 known3 now5_0 now5_1 now5_2 now5_3 before6_0 before6_1 before6_2 before6_3 =
 ((bif (is7 == true) then (S111 n (before6_2, before6_3) (now5_2, now5_3)).bind fun r2' =>
 some (decide (r2' ≥ 0))
 else some false)).bind fun b3' =>
 (bif b3' then (bif (v4 == v4) && bounds (some before6_0) (some v4) (some v4) l0.length then (S110 n ((l0.take (Int.toNat v4)).drop (Int.toNat before6_0))).bind fun r4' =>
        L82_2 n m1 m2 l0 v4 ((alook (known3.eraseP (fun p => p.1 == now5_0)) before6_0).isSome) (known3.eraseP (fun p => p.1 == now5_0)) before6_0 v4 r4'.1 r4'.2 (((alook (known3.eraseP (fun p => p.1 == now5_0)) before6_0).getD (0, 0, 0, 0)).1) ((((alook (known3.eraseP (fun p => p.1 == now5_0)) before6_0).getD (0, 0, 0, 0)).2).1) (((((alook (known3.eraseP (fun p => p.1 == now5_0)) before6_0).getD (0, 0, 0, 0)).2).2).1) (((((alook (known3.eraseP (fun p => p.1 == now5_0)) before6_0).getD (0, 0, 0, 0)).2).2).2)
 else none)
 else L82_1 n m1 l0 (wr .i64 (v4 + 1)) (aset known3 v4 (now5_0, now5_1, now5_2, now5_3))) := by kernel_rfl
theorem L82_3_eq (n : Nat × Nat) (m1 : Nat) (v9 : Int) (known3 : List (Int × Int × Int × Int × Int)) (out8 : List (Int × Int × Int × Int)) : L82_3 n (m1 + 1) v9 known3 out8 =
 (bif decide (v9 > 0) then (bif decide (out8.length + [(((alook known3 v9).getD (0, 0, 0, 0)).1, (((alook known3 v9).getD (0, 0, 0, 0)).2).1, (((alook known3 v9).getD (0, 0, 0, 0)).2).2)].length ≤ lim) then L82_3 n m1 (((alook known3 v9).getD (0, 0, 0, 0)).1) known3 (out8 ++ [(((alook known3 v9).getD (0, 0, 0, 0)).1, (((alook known3 v9).getD (0, 0, 0, 0)).2).1, (((alook known3 v9).getD (0, 0, 0, 0)).2).2)])
 else none)
 else (S112io1 n out8).bind fun r5' =>
 (bif Nat.beq r5'.2.1.length out8.length then some r5'.2.1
 else none)) := by kernel_rfl
noncomputable def S82 (n : Nat × Nat) (l0 : List (Int × Int)) : Option R82 := run (E82 n) c82 an82 rt82 (fun _ _ => none) rt82 { tm := [.c (.sl (.pair (.int .i64) (.int .i64)) l0 false), uu, uu, uu, uu, uu, uu, uu, uu, uu, uu, uu, uu, uu, uu, uu, uu, uu, uu, uu, uu, uu, uu, uu, uu, uu, uu, uu, uu, uu, uu, uu, uu, uu, uu, uu, uu, uu, uu, uu, uu, uu, uu, uu, uu, uu, uu, uu, uu, uu, uu, uu, uu, uu, uu, uu, uu, uu, uu, uu, uu, uu, uu, uu, uu, uu, uu, uu, uu, uu, uu, uu, uu, uu, uu, uu, uu, uu, uu, uu, uu, uu, uu, uu, uu, uu], hp := emp }
theorem S82_eq (n : Nat × Nat) (l0 : List (Int × Int)) : S82 n l0 =
    L82_1 n n.1 l0 1 [] := by kernel_rfl
theorem S82_run (n : Nat × Nat) (xs : pksDen pk82) : S82 n xs.1 = runG (E82 n) noScope c82 an82 (rtG rk82) (fun _ _ => none) (rtG rk82) (st0 pk82 xs Tryd.f82.ntmps) := by kernel_rfl
noncomputable def P82 (n : Nat × Nat) := phiOf pk82 rk82 (fun xs => S82 n xs.1)
theorem call82 : CallOK Tryd.prog 82 := callOK_of Tryd.func82 (by kernel_rfl) (by kernel_rfl)
theorem env82 (n : Nat × Nat) : EnvOK Tryd.prog (E82 n) := envOK (l := io82 n) (consPhi_ok (FC110 n) call110 (consPhi_ok (FC111 n) call111 noPhi_ok)) rfl rfl (by kernel_rfl) ⟨FC112io1 n, call112, trivial⟩
theorem par82 (n : Nat × Nat) : EnvPar (E82 n) := envPar (l := io82 n) (consPhi_par phiOf_Par1 (consPhi_par phiOf_Par1 noPhi_par)) rfl ⟨phioOf_Pario1, trivial⟩
theorem FC82 (n : Nat × Nat) : FCs Tryd.prog 82 (P82 n) := phiOf_FCs fun xs r h vs hv => FC.of_runG tabOK eqsOK (env82 n) (par82 n) mixed (fun _ p _ => noScope_ok p.1 p.2) Tryd.func82 (c := c82) (an := an82) (pks := pk82) (rks := rk82) (by kernel_rfl) (by kernel_rfl) hv ((S82_run n xs).symm.trans h)
abbrev R49 := List (Int × Int)
noncomputable def c49 : Code := bodyOf Tryd.f49
noncomputable def an49 : Ann := (.s .l (.s .l (.s (.s .l (.j [3] (.j [3, 7, 8, 9] (.s .l (.s (.j [3, 7, 8, 9] .l .l) (.s (.j [3, 7, 8, 9] (.s .l (.s .l (.j [3, 7, 8, 9] (.j [3, 5, 7, 8, 9, 17, 18] (.s .l (.s (.j [3, 5, 7, 8, 9, 17, 18] .l .l) (.s (.j [3, 5, 7, 8, 9, 17, 18] .l .l) .l))) .l) .l))) .l) .l))) .l) .l)) .l)))
def pk49 : List PK := [.c (.sl (.pair (.int .i64) (.int .i64)))]
def rk49 : List RK := [.own (.pair (.int .i64) (.int .i64)) 2]
noncomputable def rt49 (st : St) : Option R49 := rtG rk49 st
noncomputable def E49 (n : Nat × Nat) : Env := { T := tab, phi := (consPhi 82 (fun _ => true) (P82 n) noPhi), eff := fun _ => false, fuel := n.1, hold := n.2 }
noncomputable def kq49_1 (n : Nat × Nat) : St → Option R49 := run (E49 n) (cB (cB (cB c49))) (Ann.snd (Ann.snd (Ann.snd an49))) rt49 (fun _ _ => none) rt49
noncomputable def xb49_3 (n : Nat × Nat) : Nat → St → Option R49 := fun j s => bif Nat.beq j 0 then normC [3] s (kq49_1 n) else (fun _ _ => none) j s
noncomputable def F49_4 (n : Nat × Nat) : (St → Option R49) → St → Option R49 := fun K s => run (E49 n) (cA (cA (cB (cA (cB (cB c49)))))) (Ann.fst (Ann.fst (Ann.snd (Ann.fst (Ann.snd (Ann.snd an49)))))) (fun s => normC [3, 7, 8, 9] s K) (xb49_3 n) rt49 s
noncomputable def kq49_7 (n : Nat × Nat) (m1 : Nat) : St → Option R49 := run (E49 n) (cB (cB (cB (cA (cA (cB (cA (cB (cB c49))))))))) (Ann.snd (Ann.snd (Ann.snd (Ann.fst (Ann.fst (Ann.snd (Ann.fst (Ann.snd (Ann.snd an49))))))))) (fun s => normC [3, 7, 8, 9] s (loopN (F49_4 n) m1)) (xb49_3 n) rt49
noncomputable def kc49_8 (n : Nat × Nat) (m1 : Nat) : St → Option R49 := fun s => normC [3, 7, 8, 9] s (kq49_7 n m1)
noncomputable def xb49_9 (n : Nat × Nat) (m1 : Nat) : Nat → St → Option R49 := fun j s => bif Nat.beq j 1 then normC [3, 7, 8, 9] s (kq49_7 n m1) else (xb49_3 n) j s
noncomputable def xb49_11 (n : Nat × Nat) (m1 : Nat) : Nat → St → Option R49 := fun j s => bif Nat.beq j 2 then normC [3, 7, 8, 9] s (kc49_8 n m1) else (xb49_9 n m1) j s
noncomputable def F49_12 (n : Nat × Nat) (m1 : Nat) : (St → Option R49) → St → Option R49 := fun K s => run (E49 n) (cA (cA (cB (cB (cA (cA (cB (cB (cA (cA (cB (cA (cB (cB c49)))))))))))))) (Ann.fst (Ann.fst (Ann.snd (Ann.snd (Ann.fst (Ann.fst (Ann.snd (Ann.snd (Ann.fst (Ann.fst (Ann.snd (Ann.fst (Ann.snd (Ann.snd an49)))))))))))))) (fun s => normC [3, 5, 7, 8, 9, 17, 18] s K) (xb49_11 n m1) rt49 s
noncomputable def L49_1 (n : Nat × Nat) (m : Nat) (v8 : Int) (v9 : Int) (out3 : List (Int × Int)) (v7 : List (Int × Int × Int × Int)) : Option R49 := loopN (F49_4 n) m { tm := [uu, uu, uu, .own 3 none false, uu, uu, uu, .own 7 none false, .c (.int .i64 v8), .c (.int .i64 v9), uu, uu, uu, uu, uu, uu, uu, uu, uu, uu, uu, uu, uu, uu, uu, uu, uu, uu], hp := (upd (upd emp 7 (.arr (.pair (.int .i64) (.pair (.int .i64) (.pair (.int .i64) (.int .i64)))) v7 false)) 3 (.arr (.pair (.int .i64) (.int .i64)) out3 false)) }
noncomputable def L49_2 (n : Nat × Nat) (m1 : Nat) (m : Nat) (v8 : Int) (v9 : Int) (v17 : Int) (v18 : Int) (out3 : List (Int × Int)) (b5_0 : Int) (b5_1 : Int) (b5_2 : Int) (b5_3 : Int) (v7 : List (Int × Int × Int × Int)) : Option R49 := loopN (F49_12 n m1) m { tm := [uu, uu, uu, .own 3 none false, uu, .ptr 5 0, uu, .own 7 none false, .c (.int .i64 v8), .c (.int .i64 v9), uu, uu, uu, uu, uu, uu, uu, .c (.int .i64 v17), .c (.int .i64 v18), uu, uu, uu, uu, uu, uu, uu, uu, uu], hp := (upd (upd (upd emp 7 (.arr (.pair (.int .i64) (.pair (.int .i64) (.pair (.int .i64) (.int .i64)))) v7 false)) 5 (.box [.int .i64 b5_0, .int .i64 b5_1, .int .i64 b5_2, .int .i64 b5_3])) 3 (.arr (.pair (.int .i64) (.int .i64)) out3 false)) }
theorem L49_1_eq (n : Nat × Nat) (m1 : Nat) (v8 : Int) (v9 : Int) (out3 : List (Int × Int)) (v7 : List (Int × Int × Int × Int)) : L49_1 n (m1 + 1) v8 v9 out3 v7 =
 (bif decide (v9 < v8) then (bif inB v9 v7.length then (idx v7 v9).bind fun x2' =>
        L49_2 n m1 n.1 v8 v9 (wr .i64 (x2'.2.1 - x2'.1)) 0 out3 x2'.1 x2'.2.1 x2'.2.2.1 x2'.2.2.2 v7
 else none)
 else some out3) := by kernel_rfl
theorem L49_2_eq (n : Nat × Nat) (m1 m2 : Nat) (v8 : Int) (v9 : Int) (v17 : Int) (v18 : Int) (out3 : List (Int × Int)) (b5_0 : Int) (b5_1 : Int) (b5_2 : Int) (b5_3 : Int) (v7 : List (Int × Int × Int × Int)) : L49_2 n m1 (m2 + 1) v8 v9 v17 v18 out3 b5_0 b5_1 b5_2 b5_3 v7 =
 (bif decide (v18 < v17) then (bif decide (out3.length + [(b5_2, b5_3)].length ≤ lim) then L49_2 n m1 m2 v8 v9 v17 (wr .i64 (v18 + 1)) (out3 ++ [(b5_2, b5_3)]) b5_0 b5_1 b5_2 b5_3 v7
 else none)
 else L49_1 n m1 v8 (wr .i64 (v9 + 1)) out3 v7) := by kernel_rfl
noncomputable def S49 (n : Nat × Nat) (l0 : List (Int × Int)) : Option R49 := run (E49 n) c49 an49 rt49 (fun _ _ => none) rt49 { tm := [.c (.sl (.pair (.int .i64) (.int .i64)) l0 false), uu, uu, uu, uu, uu, uu, uu, uu, uu, uu, uu, uu, uu, uu, uu, uu, uu, uu, uu, uu, uu, uu, uu, uu, uu, uu, uu], hp := emp }
theorem S49_eq (n : Nat × Nat) (l0 : List (Int × Int)) : S49 n l0 =
 (S82 n l0).bind fun r1' =>
    L49_1 n n.1 (r1'.length : Int) 0 [] r1' := by kernel_rfl
theorem S49_run (n : Nat × Nat) (xs : pksDen pk49) : S49 n xs.1 = runG (E49 n) noScope c49 an49 (rtG rk49) (fun _ _ => none) (rtG rk49) (st0 pk49 xs Tryd.f49.ntmps) := by kernel_rfl
noncomputable def P49 (n : Nat × Nat) := phiOf pk49 rk49 (fun xs => S49 n xs.1)
theorem call49 : CallOK Tryd.prog 49 := callOK_of Tryd.func49 (by kernel_rfl) (by kernel_rfl)
theorem env49 (n : Nat × Nat) : EnvOK Tryd.prog (E49 n) := envOK0 (consPhi_ok (FC82 n) call82 noPhi_ok) rfl rfl
theorem par49 (n : Nat × Nat) : EnvPar (E49 n) := envPar0 (consPhi_par phiOf_Par1 noPhi_par) rfl
theorem FC49 (n : Nat × Nat) : FCs Tryd.prog 49 (P49 n) := phiOf_FCs fun xs r h vs hv => FC.of_runG tabOK eqsOK (env49 n) (par49 n) mixed (fun _ p _ => noScope_ok p.1 p.2) Tryd.func49 (c := c49) (an := an49) (pks := pk49) (rks := rk49) (by kernel_rfl) (by kernel_rfl) hv ((S49_run n xs).symm.trans h)
abbrev R19 := (List (Int × Int)) × Int
noncomputable def c19 : Code := bodyOf Tryd.f19
noncomputable def an19 : Ann := (.s .l (.s (.s .l (.s .l (.j [0] .l .l))) .l))
def pk19 : List PK := [.c (.sl (.pair (.int .i64) (.int .i64)))]
def rk19 : List RK := [.own (.pair (.int .i64) (.int .i64)) 2, .c (.int .i64) 3]
noncomputable def rt19 (st : St) : Option R19 := rtG rk19 st
noncomputable def E19 (n : Nat × Nat) : Env := { T := tab, phi := (consPhi 48 (fun _ => true) (P48 n) (consPhi 49 (fun _ => true) (P49 n) noPhi)), eff := fun _ => false, fuel := n.1, hold := n.2 }
noncomputable def S19 (n : Nat × Nat) (l0 : List (Int × Int)) : Option R19 := run (E19 n) c19 an19 rt19 (fun _ _ => none) rt19 { tm := [.c (.sl (.pair (.int .i64) (.int .i64)) l0 false), uu, uu, uu, uu, uu, uu, uu, uu, uu, uu, uu], hp := emp }
theorem S19_eq (n : Nat × Nat) (l0 : List (Int × Int)) : S19 n l0 =
 (S48 n l0).bind fun r1' =>
 (bif (r1' != 0) then some ([], r1')
 else (S49 n l0).bind fun r2' =>
 some (r2', 0)) := by kernel_rfl
theorem S19_run (n : Nat × Nat) (xs : pksDen pk19) : S19 n xs.1 = runG (E19 n) noScope c19 an19 (rtG rk19) (fun _ _ => none) (rtG rk19) (st0 pk19 xs Tryd.f19.ntmps) := by kernel_rfl
noncomputable def P19 (n : Nat × Nat) := phiOf pk19 rk19 (fun xs => S19 n xs.1)
theorem call19 : CallOK Tryd.prog 19 := callOK_of Tryd.func19 (by kernel_rfl) (by kernel_rfl)
theorem env19 (n : Nat × Nat) : EnvOK Tryd.prog (E19 n) := envOK0 (consPhi_ok (FC48 n) call48 (consPhi_ok (FC49 n) call49 noPhi_ok)) rfl rfl
theorem par19 (n : Nat × Nat) : EnvPar (E19 n) := envPar0 (consPhi_par phiOf_Par1 (consPhi_par phiOf_Par1 noPhi_par)) rfl
theorem FC19 (n : Nat × Nat) : FCs Tryd.prog 19 (P19 n) := phiOf_FCs fun xs r h vs hv => FC.of_runG tabOK eqsOK (env19 n) (par19 n) mixed (fun _ p _ => noScope_ok p.1 p.2) Tryd.func19 (c := c19) (an := an19) (pks := pk19) (rks := rk19) (by kernel_rfl) (by kernel_rfl) hv ((S19_run n xs).symm.trans h)
/- cmp.isNaN[int] -/
abbrev R101 := Bool
noncomputable def c101 : Code := bodyOf Tryd.f101
noncomputable def an101 : Ann := .l
def pk101 : List PK := [.c (.int .i64)]
def rk101 : List RK := [.c .bool 2]
noncomputable def rt101 (st : St) : Option R101 := rtG rk101 st
noncomputable def E101 (n : Nat × Nat) : Env := { T := tab, phi := noPhi, eff := fun _ => false, fuel := n.1, hold := n.2 }
noncomputable def S101 (n : Nat × Nat) (x0 : Int) : Option R101 := run (E101 n) c101 an101 rt101 (fun _ _ => none) rt101 { tm := [.c (.int .i64 x0), uu, uu, uu, uu, uu], hp := emp }
theorem S101_eq (n : Nat × Nat) (x0 : Int) : S101 n x0 =
 some (x0 != x0) := by kernel_rfl
theorem S101_run (n : Nat × Nat) (xs : pksDen pk101) : S101 n xs.1 = runG (E101 n) noScope c101 an101 (rtG rk101) (fun _ _ => none) (rtG rk101) (st0 pk101 xs Tryd.f101.ntmps) := by kernel_rfl
noncomputable def P101 (n : Nat × Nat) := phiOf pk101 rk101 (fun xs => S101 n xs.1)
theorem call101 : CallOK Tryd.prog 101 := callOK_of Tryd.func101 (by kernel_rfl) (by kernel_rfl)
theorem env101 (n : Nat × Nat) : EnvOK Tryd.prog (E101 n) := envOK0 noPhi_ok rfl rfl
theorem par101 (n : Nat × Nat) : EnvPar (E101 n) := envPar0 noPhi_par rfl
theorem FC101 (n : Nat × Nat) : FCs Tryd.prog 101 (P101 n) := phiOf_FCs fun xs r h vs hv => FC.of_runG tabOK eqsOK (env101 n) (par101 n) mixed (fun _ p _ => noScope_ok p.1 p.2) Tryd.func101 (c := c101) (an := an101) (pks := pk101) (rks := rk101) (by kernel_rfl) (by kernel_rfl) hv ((S101_run n xs).symm.trans h)
/- cmp.Compare[int] -/
abbrev R69 := Int
noncomputable def c69 : Code := bodyOf Tryd.f69
noncomputable def an69 : Ann := (.s .l (.s .l (.s .l (.s (.s .l (.j [0, 1, 6] (.s (.s .l (.j [] .l .l)) .l) .l)) (.s (.s .l (.j [0, 1] .l .l)) (.s (.s .l (.j [0, 1] .l .l)) (.s (.s .l (.j [] .l .l)) .l)))))))
def pk69 : List PK := [.c (.int .i64), .c (.int .i64)]
def rk69 : List RK := [.c (.int .i64) 4]
noncomputable def rt69 (st : St) : Option R69 := rtG rk69 st
noncomputable def E69 (n : Nat × Nat) : Env := { T := tab, phi := (consPhi 101 (fun _ => true) (P101 n) noPhi), eff := fun _ => false, fuel := n.1, hold := n.2 }
noncomputable def S69 (n : Nat × Nat) (x0 : Int) (y1 : Int) : Option R69 := run (E69 n) c69 an69 rt69 (fun _ _ => none) rt69 { tm := [.c (.int .i64 x0), .c (.int .i64 y1), uu, uu, uu, uu, uu, uu, uu, uu, uu, uu, uu, uu, uu, uu, uu, uu, uu, uu], hp := emp }
theorem S69_eq (n : Nat × Nat) (x0 : Int) (y1 : Int) : S69 n x0 y1 =
 (S101 n x0).bind fun r1' =>
 (S101 n y1).bind fun r2' =>
 (bif r1' then (bif r2' then some 0
 else some (-1))
 else (bif r2' then some 1
 else (bif decide (x0 < y1) then some (-1)
 else (bif decide (x0 > y1) then some 1
 else some 0)))) := by kernel_rfl
theorem S69_run (n : Nat × Nat) (xs : pksDen pk69) : S69 n xs.1 xs.2.1 = runG (E69 n) noScope c69 an69 (rtG rk69) (fun _ _ => none) (rtG rk69) (st0 pk69 xs Tryd.f69.ntmps) := by kernel_rfl
noncomputable def P69 (n : Nat × Nat) := phiOf pk69 rk69 (fun xs => S69 n xs.1 xs.2.1)
theorem call69 : CallOK Tryd.prog 69 := callOK_of Tryd.func69 (by kernel_rfl) (by kernel_rfl)
theorem env69 (n : Nat × Nat) : EnvOK Tryd.prog (E69 n) := envOK0 (consPhi_ok (FC101 n) call101 noPhi_ok) rfl rfl
theorem par69 (n : Nat × Nat) : EnvPar (E69 n) := envPar0 (consPhi_par phiOf_Par1 noPhi_par) rfl
theorem FC69 (n : Nat × Nat) : FCs Tryd.prog 69 (P69 n) := phiOf_FCs fun xs r h vs hv => FC.of_runG tabOK eqsOK (env69 n) (par69 n) mixed (fun _ p _ => noScope_ok p.1 p.2) Tryd.func69 (c := c69) (an := an69) (pks := pk69) (rks := rk69) (by kernel_rfl) (by kernel_rfl) hv ((S69_run n xs).symm.trans h)
/- slices.Compare[[]int,int] -/
abbrev R37 := Int
noncomputable def c37 : Code := bodyOf Tryd.f37
noncomputable def an37 : Ann := (.s .l (.s (.s .l (.j [0, 1] (.j [0, 1, 9, 10, 11] (.s .l (.s (.j [0, 1, 9, 10, 11] .l .l) (.s (.j [0, 1, 9, 10, 11] (.s .l (.s (.s .l (.j [0, 1, 5, 6, 9, 10, 11] .l .l)) (.s .l (.s .l (.s .l (.j [0, 1, 9, 10, 11] .l .l)))))) .l) .l))) .l) .l)) (.s (.s .l (.j [] .l .l)) .l)))
def pk37 : List PK := [.c (.sl (.int .i64)), .c (.sl (.int .i64))]
def rk37 : List RK := [.c (.int .i64) 4]
noncomputable def rt37 (st : St) : Option R37 := rtG rk37 st
noncomputable def E37 (n : Nat × Nat) : Env := { T := tab, phi := (consPhi 69 (fun _ => true) (P69 n) noPhi), eff := fun _ => false, fuel := n.1, hold := n.2 }
noncomputable def kq37_1 (n : Nat × Nat) : St → Option R37 := run (E37 n) (cB (cB c37)) (Ann.snd (Ann.snd an37)) rt37 (fun _ _ => none) rt37
noncomputable def xb37_3 (n : Nat × Nat) : Nat → St → Option R37 := fun j s => bif Nat.beq j 0 then normC [0, 1] s (kq37_1 n) else (fun _ _ => none) j s
noncomputable def F37_4 (n : Nat × Nat) : (St → Option R37) → St → Option R37 := fun K s => run (E37 n) (cA (cA (cB (cA (cB c37))))) (Ann.fst (Ann.fst (Ann.snd (Ann.fst (Ann.snd an37))))) (fun s => normC [0, 1, 9, 10, 11] s K) (xb37_3 n) rt37 s
noncomputable def L37_1 (n : Nat × Nat) (m : Nat) (s10 : List Int) (s21 : List Int) (v9 : List Int) (v10 : Int) (v11 : Int) : Option R37 := loopN (F37_4 n) m { tm := [.c (.sl (.int .i64) s10 false), .c (.sl (.int .i64) s21 false), uu, uu, uu, uu, uu, uu, uu, .c (.sl (.int .i64) v9 false), .c (.int .i64 v10), .c (.int .i64 v11), uu, uu, uu, uu, uu, uu, uu, uu, uu, uu, uu, uu, uu, uu, uu, uu, uu, uu, uu, uu, uu, uu, uu, uu], hp := emp }
theorem L37_1_eq (n : Nat × Nat) (m1 : Nat) (s10 : List Int) (s21 : List Int) (v9 : List Int) (v10 : Int) (v11 : Int) : L37_1 n (m1 + 1) s10 s21 v9 v10 v11 =
 (bif decide (v11 < v10) then (idx v9 v11).bind fun x1' =>
 (bif decide (v11 ≥ (s21.length : Int)) then some 1
 else (idx s21 v11).bind fun x2' =>
 (S69 n x1' x2').bind fun r3' =>
 (bif (r3' != 0) then some r3'
 else L37_1 n m1 s10 s21 v9 v10 (wr .i64 (v11 + 1))))
 else (bif decide ((s10.length : Int) < (s21.length : Int)) then some (-1)
 else some 0)) := by kernel_rfl
noncomputable def S37 (n : Nat × Nat) (s10 : List Int) (s21 : List Int) : Option R37 := run (E37 n) c37 an37 rt37 (fun _ _ => none) rt37 { tm := [.c (.sl (.int .i64) s10 false), .c (.sl (.int .i64) s21 false), uu, uu, uu, uu, uu, uu, uu, uu, uu, uu, uu, uu, uu, uu, uu, uu, uu, uu, uu, uu, uu, uu, uu, uu, uu, uu, uu, uu, uu, uu, uu, uu, uu, uu], hp := emp }
theorem S37_eq (n : Nat × Nat) (s10 : List Int) (s21 : List Int) : S37 n s10 s21 =
    L37_1 n n.1 s10 s21 s10 (s10.length : Int) 0 := by kernel_rfl
theorem S37_run (n : Nat × Nat) (xs : pksDen pk37) : S37 n xs.1 xs.2.1 = runG (E37 n) noScope c37 an37 (rtG rk37) (fun _ _ => none) (rtG rk37) (st0 pk37 xs Tryd.f37.ntmps) := by kernel_rfl
noncomputable def P37 (n : Nat × Nat) := phiOf pk37 rk37 (fun xs => S37 n xs.1 xs.2.1)
theorem call37 : CallOK Tryd.prog 37 := callOK_of Tryd.func37 (by kernel_rfl) (by kernel_rfl)
theorem env37 (n : Nat × Nat) : EnvOK Tryd.prog (E37 n) := envOK0 (consPhi_ok (FC69 n) call69 noPhi_ok) rfl rfl
theorem par37 (n : Nat × Nat) : EnvPar (E37 n) := envPar0 (consPhi_par phiOf_Par1 noPhi_par) rfl
theorem FC37 (n : Nat × Nat) : FCs Tryd.prog 37 (P37 n) := phiOf_FCs fun xs r h vs hv => FC.of_runG tabOK eqsOK (env37 n) (par37 n) mixed (fun _ p _ => noScope_ok p.1 p.2) Tryd.func37 (c := c37) (an := an37) (pks := pk37) (rks := rk37) (by kernel_rfl) (by kernel_rfl) hv ((S37_run n xs).symm.trans h)
abbrev R50 := List Int × Int
noncomputable def c50 : Code := bodyOf Tryd.f50
noncomputable def an50 : Ann := (.s .l (.s (.s .l (.s .l (.j [0, 41, 42, 43, 44, 51, 52, 53, 54, 55, 56, 57, 58, 59, 60, 61, 62, 63, 64, 65, 66, 67, 68, 69, 70, 71, 72] .l .l))) (.s .l (.s (.s .l (.j [5] (.j [0, 5, 19, 20, 41, 42, 43, 44, 51, 52, 53, 54, 55, 56, 57, 58, 59, 60, 61, 62, 63, 64, 65, 66, 67, 68, 69, 70, 71, 72] (.s .l (.s (.j [0, 5, 19, 20, 41, 42, 43, 44, 51, 52, 53, 54, 55, 56, 57, 58, 59, 60, 61, 62, 63, 64, 65, 66, 67, 68, 69, 70, 71, 72] .l .l) (.j [] (.j [0, 5, 19, 20, 41, 42, 43, 44, 51, 52, 53, 54, 55, 56, 57, 58, 59, 60, 61, 62, 63, 64, 65, 66, 67, 68, 69, 70, 71, 72] (.s .l (.s .l (.s .l (.s .l (.s (.s .l (.j [0, 5, 7, 9, 19, 20, 41, 42, 43, 44, 51, 52, 53, 54, 55, 56, 57, 58, 59, 60, 61, 62, 63, 64, 65, 66, 67, 68, 69, 70, 71, 72] (.j [0, 5, 6, 7, 8, 9, 19, 20, 23, 24, 25, 41, 42, 43, 44, 51, 52, 53, 54, 55, 56, 57, 58, 59, 60, 61, 62, 63, 64, 65, 66, 67, 68, 69, 70, 71, 72] (.s .l (.s (.j [0, 5, 6, 7, 8, 9, 19, 20, 23, 24, 25, 41, 42, 43, 44, 51, 52, 53, 54, 55, 56, 57, 58, 59, 60, 61, 62, 63, 64, 65, 66, 67, 68, 69, 70, 71, 72] .l .l) (.j [] (.j [0, 5, 6, 7, 8, 9, 19, 20, 23, 24, 25, 41, 42, 43, 44, 51, 52, 53, 54, 55, 56, 57, 58, 59, 60, 61, 62, 63, 64, 65, 66, 67, 68, 69, 70, 71, 72] (.s .l (.s (.s .l (.j [0, 5, 6, 7, 8, 9, 11, 19, 20, 23, 24, 25, 41, 42, 43, 44, 51, 52, 53, 54, 55, 56, 57, 58, 59, 60, 61, 62, 63, 64, 65, 66, 67, 68, 69, 70, 71, 72] .l .l)) .l)) .l) .l))) .l) .l)) (.s .l (.j [0, 5, 19, 20, 41, 42, 43, 44, 51, 52, 53, 54, 55, 56, 57, 58, 59, 60, 61, 62, 63, 64, 65, 66, 67, 68, 69, 70, 71, 72] (.s .l (.s .l (.j [0, 5, 19, 20, 41, 42, 43, 44, 51, 52, 53, 54, 55, 56, 57, 58, 59, 60, 61, 62, 63, 64, 65, 66, 67, 68, 69, 70, 71, 72] .l .l))) .l))))))) .l) .l))) .l) .l)) .l))))
def pk50 : List PK := [.c (.sl (.pair (.int .i64) (.int .i64)))]
def rk50 : List RK := [.own (.int .i64) 2, .c (.int .i64) 3]
noncomputable def rt50 (st : St) : Option R50 := rtG rk50 st
noncomputable def E50 (n : Nat × Nat) : Env := { T := tabN, phi := (consPhi 37 (fun _ => true) (P37 n) (consPhi 48 (fun _ => true) (P48 n) noPhi)), eff := fun _ => false, fuel := n.1, hold := n.2 }
noncomputable def kq50_3 (n : Nat × Nat) : St → Option R50 := run (E50 n) (cB (cB (cB (cB c50)))) (Ann.snd (Ann.snd (Ann.snd (Ann.snd an50)))) rt50 (fun _ _ => none) rt50
noncomputable def xb50_5 (n : Nat × Nat) : Nat → St → Option R50 := fun j s => bif Nat.beq j 0 then normC [5] s (kq50_3 n) else (fun _ _ => none) j s
noncomputable def F50_6 (n : Nat × Nat) : (St → Option R50) → St → Option R50 := fun K s => run (E50 n) (cA (cA (cB (cA (cB (cB (cB c50))))))) (Ann.fst (Ann.fst (Ann.snd (Ann.fst (Ann.snd (Ann.snd (Ann.snd an50))))))) (fun s => normC [0, 5, 19, 20, 41, 42, 43, 44, 51, 52, 53, 54, 55, 56, 57, 58, 59, 60, 61, 62, 63, 64, 65, 66, 67, 68, 69, 70, 71, 72] s K) (xb50_5 n) rt50 s
noncomputable def kq50_9 (n : Nat × Nat) (m1 : Nat) : St → Option R50 := run (E50 n) (cB (cB (cB (cA (cA (cB (cA (cB (cB (cB c50)))))))))) (Ann.snd (Ann.snd (Ann.snd (Ann.fst (Ann.fst (Ann.snd (Ann.fst (Ann.snd (Ann.snd (Ann.snd an50)))))))))) (fun s => normC [0, 5, 19, 20, 41, 42, 43, 44, 51, 52, 53, 54, 55, 56, 57, 58, 59, 60, 61, 62, 63, 64, 65, 66, 67, 68, 69, 70, 71, 72] s (loopN (F50_6 n) m1)) (xb50_5 n) rt50
noncomputable def kc50_10 (n : Nat × Nat) (m1 : Nat) : St → Option R50 := fun s => normC [0, 5, 19, 20, 41, 42, 43, 44, 51, 52, 53, 54, 55, 56, 57, 58, 59, 60, 61, 62, 63, 64, 65, 66, 67, 68, 69, 70, 71, 72] s (loopN (fun _ => (kq50_9 n m1)) n.2)
noncomputable def xb50_11 (n : Nat × Nat) (m1 : Nat) : Nat → St → Option R50 := fun j s => bif Nat.beq j 1 then normC [0, 5, 19, 20, 41, 42, 43, 44, 51, 52, 53, 54, 55, 56, 57, 58, 59, 60, 61, 62, 63, 64, 65, 66, 67, 68, 69, 70, 71, 72] s (loopN (fun _ => (kq50_9 n m1)) n.2) else (xb50_5 n) j s
noncomputable def kq50_12 (n : Nat × Nat) (m1 : Nat) : St → Option R50 := run (E50 n) (cB (cB (cB (cB (cB (cA (cA (cB (cB (cA (cA (cB (cA (cB (cB (cB c50)))))))))))))))) (Ann.snd (Ann.snd (Ann.snd (Ann.snd (Ann.snd (Ann.fst (Ann.fst (Ann.snd (Ann.snd (Ann.fst (Ann.fst (Ann.snd (Ann.fst (Ann.snd (Ann.snd (Ann.snd an50)))))))))))))))) (kc50_10 n m1) (xb50_11 n m1) rt50
noncomputable def xb50_14 (n : Nat × Nat) (m1 : Nat) : Nat → St → Option R50 := fun j s => bif Nat.beq j 2 then normC [0, 5, 7, 9, 19, 20, 41, 42, 43, 44, 51, 52, 53, 54, 55, 56, 57, 58, 59, 60, 61, 62, 63, 64, 65, 66, 67, 68, 69, 70, 71, 72] s (kq50_12 n m1) else (xb50_11 n m1) j s
noncomputable def F50_15 (n : Nat × Nat) (m1 : Nat) : (St → Option R50) → St → Option R50 := fun K s => run (E50 n) (cA (cA (cB (cA (cB (cB (cB (cB (cA (cA (cB (cB (cA (cA (cB (cA (cB (cB (cB c50))))))))))))))))))) (Ann.fst (Ann.fst (Ann.snd (Ann.fst (Ann.snd (Ann.snd (Ann.snd (Ann.snd (Ann.fst (Ann.fst (Ann.snd (Ann.snd (Ann.fst (Ann.fst (Ann.snd (Ann.fst (Ann.snd (Ann.snd (Ann.snd an50))))))))))))))))))) (fun s => normC [0, 5, 6, 7, 8, 9, 19, 20, 23, 24, 25, 41, 42, 43, 44, 51, 52, 53, 54, 55, 56, 57, 58, 59, 60, 61, 62, 63, 64, 65, 66, 67, 68, 69, 70, 71, 72] s K) (xb50_14 n m1) rt50 s
noncomputable def kq50_18 (n : Nat × Nat) (m1 m2 : Nat) : St → Option R50 := run (E50 n) (cB (cB (cB (cA (cA (cB (cA (cB (cB (cB (cB (cA (cA (cB (cB (cA (cA (cB (cA (cB (cB (cB c50)))))))))))))))))))))) (Ann.snd (Ann.snd (Ann.snd (Ann.fst (Ann.fst (Ann.snd (Ann.fst (Ann.snd (Ann.snd (Ann.snd (Ann.snd (Ann.fst (Ann.fst (Ann.snd (Ann.snd (Ann.fst (Ann.fst (Ann.snd (Ann.fst (Ann.snd (Ann.snd (Ann.snd an50)))))))))))))))))))))) (fun s => normC [0, 5, 6, 7, 8, 9, 19, 20, 23, 24, 25, 41, 42, 43, 44, 51, 52, 53, 54, 55, 56, 57, 58, 59, 60, 61, 62, 63, 64, 65, 66, 67, 68, 69, 70, 71, 72] s (loopN (F50_15 n m1) m2)) (xb50_14 n m1) rt50
noncomputable def L50_1 (n : Nat × Nat) (m : Nat) (l0 : List (Int × Int)) (v19 : Int) (v20 : Int) (best5 : List Int) : Option R50 := loopN (F50_6 n) m { tm := [.c (.sl (.pair (.int .i64) (.int .i64)) l0 false), uu, uu, uu, uu, .own 5 none false, uu, uu, uu, uu, uu, uu, uu, uu, uu, uu, uu, uu, uu, .c (.int .i64 v19), .c (.int .i64 v20), uu, uu, uu, uu, uu, uu, uu, uu, uu, uu, uu, uu, uu, uu, uu, uu, uu, uu, uu, uu, uu, uu, uu, uu, uu, uu, uu, uu, uu, uu, uu, uu, uu, uu, uu, uu, uu, uu, uu, uu, uu, uu, uu, uu, uu, uu, uu, uu, uu, uu, uu, uu, uu, uu, uu, uu, uu, uu], hp := (upd emp 5 (.arr (.int .i64) best5 true)) }
noncomputable def L50_2 (n : Nat × Nat) (m1 : Nat) (m : Nat) (l0 : List (Int × Int)) (v6 : Int) (v8 : Int) (good9 : Bool) (v19 : Int) (v20 : Int) (v23 : List (Int × Int)) (v24 : Int) (v25 : Int) (best5 : List Int) (out7 : List Int) : Option R50 := loopN (F50_15 n m1) m { tm := [.c (.sl (.pair (.int .i64) (.int .i64)) l0 false), uu, uu, uu, uu, .own 5 none false, .c (.int .i64 v6), .own 7 none false, .c (.int .i64 v8), .c (.bool good9), uu, uu, uu, uu, uu, uu, uu, uu, uu, .c (.int .i64 v19), .c (.int .i64 v20), uu, uu, .c (.sl (.pair (.int .i64) (.int .i64)) v23 false), .c (.int .i64 v24), .c (.int .i64 v25), uu, uu, uu, uu, uu, uu, uu, uu, uu, uu, uu, uu, uu, uu, uu, uu, uu, uu, uu, uu, uu, uu, uu, uu, uu, uu, uu, uu, uu, uu, uu, uu, uu, uu, uu, uu, uu, uu, uu, uu, uu, uu, uu, uu, uu, uu, uu, uu, uu, uu, uu, uu, uu], hp := (upd (upd emp 7 (.arr (.int .i64) out7 true)) 5 (.arr (.int .i64) best5 true)) }
noncomputable def L50_3 (n : Nat × Nat) (m1 m2 : Nat) (l0 : List (Int × Int)) (v6 : Int) (v8 : Int) (good9 : Bool) (v19 : Int) (v20 : Int) (v23 : List (Int × Int)) (v24 : Int) (v25 : Int) (best5 : List Int) (out7 : List Int) : Option R50 := loopN (fun _ => (kq50_18 n m1 m2)) n.2 { tm := [.c (.sl (.pair (.int .i64) (.int .i64)) l0 false), uu, uu, uu, uu, .own 5 none false, .c (.int .i64 v6), .own 7 none false, .c (.int .i64 v8), .c (.bool good9), uu, uu, uu, uu, uu, uu, uu, uu, uu, .c (.int .i64 v19), .c (.int .i64 v20), uu, uu, .c (.sl (.pair (.int .i64) (.int .i64)) v23 false), .c (.int .i64 v24), .c (.int .i64 v25), uu, uu, uu, uu, uu, uu, uu, uu, uu, uu, uu, uu, uu, uu, uu, uu, uu, uu, uu, uu, uu, uu, uu, uu, uu, uu, uu, uu, uu, uu, uu, uu, uu, uu, uu, uu, uu, uu, uu, uu, uu, uu, uu, uu, uu, uu, uu, uu, uu, uu, uu, uu, uu], hp := (upd (upd emp 7 (.arr (.int .i64) out7 true)) 5 (.arr (.int .i64) best5 true)) }
noncomputable def L50_4 (n : Nat × Nat) (m1 : Nat) (l0 : List (Int × Int)) (v19 : Int) (v20 : Int) (best5 : List Int) : Option R50 := loopN (fun _ => (kq50_9 n m1)) n.2 { tm := [.c (.sl (.pair (.int .i64) (.int .i64)) l0 false), uu, uu, uu, uu, .own 5 none false, uu, uu, uu, uu, uu, uu, uu, uu, uu, uu, uu, uu, uu, .c (.int .i64 v19), .c (.int .i64 v20), uu, uu, uu, uu, uu, uu, uu, uu, uu, uu, uu, uu, uu, uu, uu, uu, uu, uu, uu, uu, uu, uu, uu, uu, uu, uu, uu, uu, uu, uu, uu, uu, uu, uu, uu, uu, uu, uu, uu, uu, uu, uu, uu, uu, uu, uu, uu, uu, uu, uu, uu, uu, uu, uu, uu, uu, uu, uu], hp := (upd emp 5 (.arr (.int .i64) best5 true)) }
theorem L50_1_eq (n : Nat × Nat) (m1 : Nat) (l0 : List (Int × Int)) (v19 : Int) (v20 : Int) (best5 : List Int) : L50_1 n (m1 + 1) l0 v19 v20 best5 =
 (bif decide (v20 < v19) then L50_2 n m1 n.1 l0 v20 (-1) true v19 v20 l0 (l0.length : Int) 0 best5 []
 else some (best5, 0)) := by kernel_rfl
theorem L50_2_eq (n : Nat × Nat) (m1 m2 : Nat) (l0 : List (Int × Int)) (v6 : Int) (v8 : Int) (good9 : Bool) (v19 : Int) (v20 : Int) (v23 : List (Int × Int)) (v24 : Int) (v25 : Int) (best5 : List Int) (out7 : List Int) : L50_2 n m1 (m2 + 1) l0 v6 v8 good9 v19 v20 v23 v24 v25 best5 out7 =
 (bif decide (v25 < v24) then (idx v23 v25).bind fun x2' =>
 (bif decide (v25 < 0) then none
 else (bif ((wr .i64 (BitVec.ofInt (IntKind.bits .i64) (Int.fdiv v6 (2 ^ (min (Int.toNat v25) (IntKind.bits .i64)))) &&& BitVec.ofInt (IntKind.bits .i64) 1).toNat) == 1) then (bif decide (out7.length + [v25].length ≤ lim) then L50_3 n m1 m2 l0 v6 v8 good9 v19 v20 v23 v24 v25 best5 (out7 ++ [v25])
 else none)
 else ((bif (good9 == true) then some (decide (x2'.1 ≥ v8))
 else some false)).bind fun b3' =>
          L50_3 n m1 m2 l0 v6 x2'.1 b3' v19 v20 v23 v24 v25 best5 out7))
 else ((bif (good9 == true) then ((bif (best5.isEmpty == false) then some (decide ((out7.length : Int) < (best5.length : Int)))
 else some true)).bind fun b4' =>
 ((bif (b4' == false) then ((bif (((out7.length : Int) == (best5.length : Int)) == true) then (S37 n out7 best5).bind fun r5' =>
 some (decide (r5' < 0))
 else some false)).bind fun b6' =>
 some b6'
 else some true)).bind fun b7' =>
 some b7'
 else some false)).bind fun b8' =>
 (bif b8' then (bif out7.isEmpty then some ([], 0)
 else L50_4 n m1 l0 v19 v20 out7)
 else L50_4 n m1 l0 v19 v20 best5)) := by kernel_rfl
theorem L50_3_raw (n : Nat × Nat) (m1 m2 : Nat) (l0 : List (Int × Int)) (v6 : Int) (v8 : Int) (good9 : Bool) (v19 : Int) (v20 : Int) (v23 : List (Int × Int)) (v24 : Int) (v25 : Int) (best5 : List Int) (out7 : List Int) : (kq50_18 n m1 m2) { tm := [.c (.sl (.pair (.int .i64) (.int .i64)) l0 false), uu, uu, uu, uu, .own 5 none false, .c (.int .i64 v6), .own 7 none false, .c (.int .i64 v8), .c (.bool good9), uu, uu, uu, uu, uu, uu, uu, uu, uu, .c (.int .i64 v19), .c (.int .i64 v20), uu, uu, .c (.sl (.pair (.int .i64) (.int .i64)) v23 false), .c (.int .i64 v24), .c (.int .i64 v25), uu, uu, uu, uu, uu, uu, uu, uu, uu, uu, uu, uu, uu, uu, uu, uu, uu, uu, uu, uu, uu, uu, uu, uu, uu, uu, uu, uu, uu, uu, uu, uu, uu, uu, uu, uu, uu, uu, uu, uu, uu, uu, uu, uu, uu, uu, uu, uu, uu, uu, uu, uu, uu], hp := (upd (upd emp 7 (.arr (.int .i64) out7 true)) 5 (.arr (.int .i64) best5 true)) } =
    L50_2 n m1 m2 l0 v6 v8 good9 v19 v20 v23 v24 (wr .i64 (v25 + 1)) best5 out7 := by kernel_rfl
theorem L50_4_raw (n : Nat × Nat) (m1 : Nat) (l0 : List (Int × Int)) (v19 : Int) (v20 : Int) (best5 : List Int) : (kq50_9 n m1) { tm := [.c (.sl (.pair (.int .i64) (.int .i64)) l0 false), uu, uu, uu, uu, .own 5 none false, uu, uu, uu, uu, uu, uu, uu, uu, uu, uu, uu, uu, uu, .c (.int .i64 v19), .c (.int .i64 v20), uu, uu, uu, uu, uu, uu, uu, uu, uu, uu, uu, uu, uu, uu, uu, uu, uu, uu, uu, uu, uu, uu, uu, uu, uu, uu, uu, uu, uu, uu, uu, uu, uu, uu, uu, uu, uu, uu, uu, uu, uu, uu, uu, uu, uu, uu, uu, uu, uu, uu, uu, uu, uu, uu, uu, uu, uu, uu], hp := (upd emp 5 (.arr (.int .i64) best5 true)) } =
    L50_1 n m1 l0 v19 (wr .i64 (v20 + 1)) best5 := by kernel_rfl
noncomputable def S50 (n : Nat × Nat) (l0 : List (Int × Int)) : Option R50 := run (E50 n) c50 an50 rt50 (fun _ _ => none) rt50 { tm := [.c (.sl (.pair (.int .i64) (.int .i64)) l0 false), uu, uu, uu, uu, uu, uu, uu, uu, uu, uu, uu, uu, uu, uu, uu, uu, uu, uu, uu, uu, uu, uu, uu, uu, uu, uu, uu, uu, uu, uu, uu, uu, uu, uu, uu, uu, uu, uu, uu, uu, uu, uu, uu, uu, uu, uu, uu, uu, uu, uu, uu, uu, uu, uu, uu, uu, uu, uu, uu, uu, uu, uu, uu, uu, uu, uu, uu, uu, uu, uu, uu, uu, uu, uu, uu, uu, uu, uu], hp := emp }
theorem S50_eq (n : Nat × Nat) (l0 : List (Int × Int)) : S50 n l0 =
 (S48 n l0).bind fun r1' =>
 (bif (r1' != 0) then some ([], r1')
 else (bif decide ((l0.length : Int) < 0) then none
 else L50_1 n n.1 l0 (wr .i64 (1 * 2 ^ (min (Int.toNat (l0.length : Int)) (IntKind.bits .i64)))) 0 [])) := by kernel_rfl
theorem S50_run (n : Nat × Nat) (xs : pksDen pk50) : S50 n xs.1 = runG (E50 n) noScope c50 an50 (rtG rk50) (fun _ _ => none) (rtG rk50) (st0 pk50 xs Tryd.f50.ntmps) := by kernel_rfl
noncomputable def P50 (n : Nat × Nat) := phiOf pk50 rk50 (fun xs => S50 n xs.1)
theorem call50 : CallOK Tryd.prog 50 := callOK_of Tryd.func50 (by kernel_rfl) (by kernel_rfl)
theorem env50 (n : Nat × Nat) : EnvOK Tryd.prog (E50 n) := envOK0 (consPhi_ok (FC37 n) call37 (consPhi_ok (FC48 n) call48 noPhi_ok)) rfl rfl
theorem par50 (n : Nat × Nat) : EnvPar (E50 n) := envPar0 (consPhi_par phiOf_Par1 (consPhi_par phiOf_Par1 noPhi_par)) rfl
theorem FC50 (n : Nat × Nat) : FCs Tryd.prog 50 (P50 n) := phiOf_FCs fun xs r h vs hv => FC.of_runG tabNOK eqsNOK (env50 n) (par50 n) mixed (fun _ p _ => noScope_ok p.1 p.2) Tryd.func50 (c := c50) (an := an50) (pks := pk50) (rks := rk50) (by kernel_rfl) (by kernel_rfl) hv ((S50_run n xs).symm.trans h)
abbrev R14 := Bool
noncomputable def c14 : Code := bodyOf Tryd.f14
noncomputable def an14 : Ann := (.s .l (.s (.s .l (.j [0, 1] .l .l)) (.s (.s .l (.j [] (.j [0, 1, 12, 13] (.s .l (.s (.j [0, 1, 12, 13] .l .l) (.s (.j [0, 1, 12, 13] (.s .l (.s .l (.j [0, 1, 12, 13] .l .l))) .l) .l))) .l) .l)) .l)))
def pk14 : List PK := [.c (.sl (.int .i64)), .c (.sl (.int .i64))]
def rk14 : List RK := [.c .bool 4]
noncomputable def rt14 (st : St) : Option R14 := rtG rk14 st
noncomputable def E14 (n : Nat × Nat) : Env := { T := tab, phi := noPhi, eff := fun _ => false, fuel := n.1, hold := n.2 }
noncomputable def kq14_3 (n : Nat × Nat) : St → Option R14 := run (E14 n) (cB (cB (cB c14))) (Ann.snd (Ann.snd (Ann.snd an14))) rt14 (fun _ _ => none) rt14
noncomputable def xb14_5 (n : Nat × Nat) : Nat → St → Option R14 := fun j s => bif Nat.beq j 0 then normC [] s (kq14_3 n) else (fun _ _ => none) j s
noncomputable def F14_6 (n : Nat × Nat) : (St → Option R14) → St → Option R14 := fun K s => run (E14 n) (cA (cA (cB (cA (cB (cB c14)))))) (Ann.fst (Ann.fst (Ann.snd (Ann.fst (Ann.snd (Ann.snd an14)))))) (fun s => normC [0, 1, 12, 13] s K) (xb14_5 n) rt14 s
noncomputable def L14_1 (n : Nat × Nat) (m : Nat) (a0 : List Int) (b1 : List Int) (v12 : Int) (v13 : Int) : Option R14 := loopN (F14_6 n) m { tm := [.c (.sl (.int .i64) a0 false), .c (.sl (.int .i64) b1 false), uu, uu, uu, uu, uu, uu, uu, uu, uu, uu, .c (.int .i64 v12), .c (.int .i64 v13), uu, uu, uu, uu, uu, uu, uu, uu, uu, uu, uu, uu], hp := emp }
theorem L14_1_eq (n : Nat × Nat) (m1 : Nat) (a0 : List Int) (b1 : List Int) (v12 : Int) (v13 : Int) : L14_1 n (m1 + 1) a0 b1 v12 v13 =
 (bif decide (v13 < v12) then (idx a0 v13).bind fun x1' =>
 (idx b1 v13).bind fun x2' =>
 (bif (x1' != x2') then some false
 else L14_1 n m1 a0 b1 v12 (wr .i64 (v13 + 1)))
 else some true) := by kernel_rfl
noncomputable def S14 (n : Nat × Nat) (a0 : List Int) (b1 : List Int) : Option R14 := run (E14 n) c14 an14 rt14 (fun _ _ => none) rt14 { tm := [.c (.sl (.int .i64) a0 false), .c (.sl (.int .i64) b1 false), uu, uu, uu, uu, uu, uu, uu, uu, uu, uu, uu, uu, uu, uu, uu, uu, uu, uu, uu, uu, uu, uu, uu, uu], hp := emp }
theorem S14_eq (n : Nat × Nat) (a0 : List Int) (b1 : List Int) : S14 n a0 b1 =
 (bif ((a0.length : Int) != (b1.length : Int)) then some false
 else L14_1 n n.1 a0 b1 (a0.length : Int) 0) := by kernel_rfl
theorem S14_run (n : Nat × Nat) (xs : pksDen pk14) : S14 n xs.1 xs.2.1 = runG (E14 n) noScope c14 an14 (rtG rk14) (fun _ _ => none) (rtG rk14) (st0 pk14 xs Tryd.f14.ntmps) := by kernel_rfl
noncomputable def P14 (n : Nat × Nat) := phiOf pk14 rk14 (fun xs => S14 n xs.1 xs.2.1)
theorem call14 : CallOK Tryd.prog 14 := callOK_of Tryd.func14 (by kernel_rfl) (by kernel_rfl)
theorem env14 (n : Nat × Nat) : EnvOK Tryd.prog (E14 n) := envOK0 noPhi_ok rfl rfl
theorem par14 (n : Nat × Nat) : EnvPar (E14 n) := envPar0 noPhi_par rfl
theorem FC14 (n : Nat × Nat) : FCs Tryd.prog 14 (P14 n) := phiOf_FCs fun xs r h vs hv => FC.of_runG tabOK eqsOK (env14 n) (par14 n) mixed (fun _ p _ => noScope_ok p.1 p.2) Tryd.func14 (c := c14) (an := an14) (pks := pk14) (rks := rk14) (by kernel_rfl) (by kernel_rfl) hv ((S14_run n xs).symm.trans h)
/- slices.Index[[][2]int,[2]int] -/
abbrev R117 := Int
noncomputable def c117 : Code := bodyOf Tryd.f117
noncomputable def an117 : Ann := (.s .l (.s (.s .l (.j [] (.j [0, 3, 7, 8] (.s .l (.s (.j [0, 3, 7, 8] .l .l) (.s (.j [0, 3, 7, 8] (.s .l (.s .l (.j [0, 3, 7, 8] .l .l))) .l) .l))) .l) .l)) .l))
def pk117 : List PK := [.c (.sl (.pair (.int .i64) (.int .i64))), .c (.pair (.int .i64) (.int .i64))]
def rk117 : List RK := [.c (.int .i64) 4]
noncomputable def rt117 (st : St) : Option R117 := rtG rk117 st
noncomputable def E117 (n : Nat × Nat) : Env := { T := tab, phi := noPhi, eff := fun _ => false, fuel := n.1, hold := n.2 }
noncomputable def kq117_1 (n : Nat × Nat) : St → Option R117 := run (E117 n) (cB (cB c117)) (Ann.snd (Ann.snd an117)) rt117 (fun _ _ => none) rt117
noncomputable def xb117_3 (n : Nat × Nat) : Nat → St → Option R117 := fun j s => bif Nat.beq j 0 then normC [] s (kq117_1 n) else (fun _ _ => none) j s
noncomputable def F117_4 (n : Nat × Nat) : (St → Option R117) → St → Option R117 := fun K s => run (E117 n) (cA (cA (cB (cA (cB c117))))) (Ann.fst (Ann.fst (Ann.snd (Ann.fst (Ann.snd an117))))) (fun s => normC [0, 3, 7, 8] s K) (xb117_3 n) rt117 s
noncomputable def L117_1 (n : Nat × Nat) (m : Nat) (s0 : List (Int × Int)) (v7 : Int) (v8 : Int) (v3_0 : Int) (v3_1 : Int) : Option R117 := loopN (F117_4 n) m { tm := [.c (.sl (.pair (.int .i64) (.int .i64)) s0 false), uu, uu, .ptr 3 0, uu, uu, uu, .c (.int .i64 v7), .c (.int .i64 v8), uu, uu, uu, uu, uu, uu, uu, uu, uu, uu], hp := (upd emp 3 (.box [.int .i64 v3_0, .int .i64 v3_1])) }
theorem L117_1_eq (n : Nat × Nat) (m1 : Nat) (s0 : List (Int × Int)) (v7 : Int) (v8 : Int) (v3_0 : Int) (v3_1 : Int) : L117_1 n (m1 + 1) s0 v7 v8 v3_0 v3_1 =
 (bif decide (v8 < v7) then (idx s0 v8).bind fun x1' =>
 (bif ((v3_0 == x1'.1) && ((v3_1 == x1'.2) && true)) then some v8
 else L117_1 n m1 s0 v7 (wr .i64 (v8 + 1)) v3_0 v3_1)
 else some (-1)) := by kernel_rfl
noncomputable def S117 (n : Nat × Nat) (s0 : List (Int × Int)) (v1 : Int × Int) : Option R117 := run (E117 n) c117 an117 rt117 (fun _ _ => none) rt117 { tm := [.c (.sl (.pair (.int .i64) (.int .i64)) s0 false), .agg [.int .i64 v1.1, .int .i64 v1.2], uu, uu, uu, uu, uu, uu, uu, uu, uu, uu, uu, uu, uu, uu, uu, uu, uu], hp := emp }
theorem S117_eq (n : Nat × Nat) (s0 : List (Int × Int)) (v1 : Int × Int) : S117 n s0 v1 =
    L117_1 n n.1 s0 (s0.length : Int) 0 v1.1 v1.2 := by kernel_rfl
theorem S117_run (n : Nat × Nat) (xs : pksDen pk117) : S117 n xs.1 xs.2.1 = runG (E117 n) noScope c117 an117 (rtG rk117) (fun _ _ => none) (rtG rk117) (st0 pk117 xs Tryd.f117.ntmps) := by kernel_rfl
noncomputable def P117 (n : Nat × Nat) := phiOf pk117 rk117 (fun xs => S117 n xs.1 xs.2.1)
theorem call117 : CallOK Tryd.prog 117 := callOK_of Tryd.func117 (by kernel_rfl) (by kernel_rfl)
theorem env117 (n : Nat × Nat) : EnvOK Tryd.prog (E117 n) := envOK0 noPhi_ok rfl rfl
theorem par117 (n : Nat × Nat) : EnvPar (E117 n) := envPar0 noPhi_par rfl
theorem FC117 (n : Nat × Nat) : FCs Tryd.prog 117 (P117 n) := phiOf_FCs fun xs r h vs hv => FC.of_runG tabOK eqsOK (env117 n) (par117 n) mixed (fun _ p _ => noScope_ok p.1 p.2) Tryd.func117 (c := c117) (an := an117) (pks := pk117) (rks := rk117) (by kernel_rfl) (by kernel_rfl) hv ((S117_run n xs).symm.trans h)
/- slices.Contains[[][2]int,[2]int] -/
abbrev R90 := Bool
noncomputable def c90 : Code := bodyOf Tryd.f90
noncomputable def an90 : Ann := .l
def pk90 : List PK := [.c (.sl (.pair (.int .i64) (.int .i64))), .c (.pair (.int .i64) (.int .i64))]
def rk90 : List RK := [.c .bool 4]
noncomputable def rt90 (st : St) : Option R90 := rtG rk90 st
noncomputable def E90 (n : Nat × Nat) : Env := { T := tab, phi := (consPhi 117 (fun _ => true) (P117 n) noPhi), eff := fun _ => false, fuel := n.1, hold := n.2 }
noncomputable def S90 (n : Nat × Nat) (s0 : List (Int × Int)) (v1 : Int × Int) : Option R90 := run (E90 n) c90 an90 rt90 (fun _ _ => none) rt90 { tm := [.c (.sl (.pair (.int .i64) (.int .i64)) s0 false), .agg [.int .i64 v1.1, .int .i64 v1.2], uu, uu, uu, uu, uu, uu, uu], hp := emp }
theorem S90_eq (n : Nat × Nat) (s0 : List (Int × Int)) (v1 : Int × Int) : S90 n s0 v1 =
 (S117 n s0 v1).bind fun r1' =>
 some (decide (r1' ≥ 0)) := by kernel_rfl
theorem S90_run (n : Nat × Nat) (xs : pksDen pk90) : S90 n xs.1 xs.2.1 = runG (E90 n) noScope c90 an90 (rtG rk90) (fun _ _ => none) (rtG rk90) (st0 pk90 xs Tryd.f90.ntmps) := by kernel_rfl
noncomputable def P90 (n : Nat × Nat) := phiOf pk90 rk90 (fun xs => S90 n xs.1 xs.2.1)
theorem call90 : CallOK Tryd.prog 90 := callOK_of Tryd.func90 (by kernel_rfl) (by kernel_rfl)
theorem env90 (n : Nat × Nat) : EnvOK Tryd.prog (E90 n) := envOK0 (consPhi_ok (FC117 n) call117 noPhi_ok) rfl rfl
theorem par90 (n : Nat × Nat) : EnvPar (E90 n) := envPar0 (consPhi_par phiOf_Par1 noPhi_par) rfl
theorem FC90 (n : Nat × Nat) : FCs Tryd.prog 90 (P90 n) := phiOf_FCs fun xs r h vs hv => FC.of_runG tabOK eqsOK (env90 n) (par90 n) mixed (fun _ p _ => noScope_ok p.1 p.2) Tryd.func90 (c := c90) (an := an90) (pks := pk90) (rks := rk90) (by kernel_rfl) (by kernel_rfl) hv ((S90_run n xs).symm.trans h)
abbrev R126 := Int
noncomputable def c126 : Code := bodyOf Tryd.f126
noncomputable def an126 : Ann := (.s .l (.s (.j [1, 35, 36, 37, 38, 39, 40, 41, 42] (.s .l (.j [1, 35, 36, 37, 38, 39, 40, 41, 42] .l (.s .l (.j [1, 35, 36, 37, 38, 39, 40, 41, 42] .l .l)))) .l) (.s (.s .l (.j [] (.j [1, 20, 21, 22, 35, 36, 37, 38, 39, 40, 41, 42] (.s .l (.s (.j [1, 20, 21, 22, 35, 36, 37, 38, 39, 40, 41, 42] .l .l) (.s (.j [1, 20, 21, 22, 35, 36, 37, 38, 39, 40, 41, 42] (.s .l (.j [1, 20, 21, 22, 35, 36, 37, 38, 39, 40, 41, 42] (.s .l (.j [1, 20, 21, 22, 35, 36, 37, 38, 39, 40, 41, 42] .l (.s .l (.j [1, 20, 21, 22, 35, 36, 37, 38, 39, 40, 41, 42] .l (.s .l (.j [1, 20, 21, 22, 35, 36, 37, 38, 39, 40, 41, 42] .l .l)))))) .l)) .l) .l))) .l) .l)) .l)))
def pk126 : List PK := [.c (.pair (.int .i64) (.sl (.pair (.int .i64) (.int .i64))))]
def rk126 : List RK := [.c (.int .i64) 2]
noncomputable def rt126 (st : St) : Option R126 := rtG rk126 st
noncomputable def E126 (n : Nat × Nat) : Env := { T := tab, phi := (consPhi 90 (fun _ => true) (P90 n) noPhi), eff := fun _ => false, fuel := n.1, hold := n.2 }
noncomputable def kq126_6 (n : Nat × Nat) : St → Option R126 := run (E126 n) (cB (cB (cB c126))) (Ann.snd (Ann.snd (Ann.snd an126))) rt126 (fun _ _ => none) rt126
noncomputable def xb126_8 (n : Nat × Nat) : Nat → St → Option R126 := fun j s => bif Nat.beq j 1 then normC [] s (kq126_6 n) else (fun _ _ => none) j s
noncomputable def F126_9 (n : Nat × Nat) : (St → Option R126) → St → Option R126 := fun K s => run (E126 n) (cA (cA (cB (cA (cB (cB c126)))))) (Ann.fst (Ann.fst (Ann.snd (Ann.fst (Ann.snd (Ann.snd an126)))))) (fun s => normC [1, 20, 21, 22, 35, 36, 37, 38, 39, 40, 41, 42] s K) (xb126_8 n) rt126 s
noncomputable def L126_1 (n : Nat × Nat) (m : Nat) (v20 : List (Int × Int)) (v21 : Int) (v22 : Int) (b1_0 : Int) (b1_1 : List (Int × Int)) : Option R126 := loopN (F126_9 n) m { tm := [uu, .ptr 1 0, uu, uu, uu, uu, uu, uu, uu, uu, uu, uu, uu, uu, uu, uu, uu, uu, uu, uu, .c (.sl (.pair (.int .i64) (.int .i64)) v20 false), .c (.int .i64 v21), .c (.int .i64 v22), uu, uu, uu, uu, uu, uu, uu, uu, uu, uu, uu, uu, uu, uu, uu, uu, uu, uu, uu, uu, uu, uu, uu, uu, uu, uu, uu, uu, uu, uu, uu, uu, uu, uu, uu], hp := (upd emp 1 (.box [.int .i64 b1_0, .sl (.pair (.int .i64) (.int .i64)) b1_1 false])) }
theorem L126_1_eq (n : Nat × Nat) (m1 : Nat) (v20 : List (Int × Int)) (v21 : Int) (v22 : Int) (b1_0 : Int) (b1_1 : List (Int × Int)) : L126_1 n (m1 + 1) v20 v21 v22 b1_0 b1_1 =
 (bif decide (v22 < v21) then (idx v20 v22).bind fun x2' =>
 (bif inB 0 2 then (idx [x2'.1, x2'.2] 0).bind fun x3' =>
 (bif inB 1 2 then (idx [x2'.1, x2'.2] 1).bind fun x4' =>
 ((bif (decide ((if x4' < x3' then x4' else x3') < 0) == false) then (bif inB 0 2 then (idx [x2'.1, x2'.2] 0).bind fun x5' =>
 (bif inB 1 2 then (idx [x2'.1, x2'.2] 1).bind fun x6' =>
 some (decide ((if x6' > x5' then x6' else x5') ≥ b1_0))
 else none)
 else none)
 else some true)).bind fun b7' =>
 (bif b7' then some 2
 else (bif inB 0 2 then (idx [x2'.1, x2'.2] 0).bind fun x8' =>
 (bif inB 1 2 then (idx [x2'.1, x2'.2] 1).bind fun x9' =>
 (bif decide (x8' ≥ x9') then some 7
 else (bif bounds none (some v22) none b1_1.length then (S90 n (b1_1.take (Int.toNat v22)) x2').bind fun r10' =>
 (bif r10' then some 6
 else L126_1 n m1 v20 v21 (wr .i64 (v22 + 1)) b1_0 b1_1)
 else none))
 else none)
 else none))
 else none)
 else none)
 else some 0) := by kernel_rfl
noncomputable def S126 (n : Nat × Nat) (b0 : Int × List (Int × Int)) : Option R126 := run (E126 n) c126 an126 rt126 (fun _ _ => none) rt126 { tm := [.agg [.int .i64 b0.1, .sl (.pair (.int .i64) (.int .i64)) b0.2 false], uu, uu, uu, uu, uu, uu, uu, uu, uu, uu, uu, uu, uu, uu, uu, uu, uu, uu, uu, uu, uu, uu, uu, uu, uu, uu, uu, uu, uu, uu, uu, uu, uu, uu, uu, uu, uu, uu, uu, uu, uu, uu, uu, uu, uu, uu, uu, uu, uu, uu, uu, uu, uu, uu, uu, uu, uu], hp := emp }
theorem S126_eq (n : Nat × Nat) (b0 : Int × List (Int × Int)) : S126 n b0 =
 ((bif (decide (b0.1 < 1) == false) then some (decide (b0.1 > 7))
 else some true)).bind fun b1' =>
 (bif b1' then some 1
 else (bif decide ((b0.2.length : Int) > 10) then some 3
 else L126_1 n n.1 b0.2 (b0.2.length : Int) 0 b0.1 b0.2)) := by kernel_rfl
theorem S126_run (n : Nat × Nat) (xs : pksDen pk126) : S126 n xs.1 = runG (E126 n) noScope c126 an126 (rtG rk126) (fun _ _ => none) (rtG rk126) (st0 pk126 xs Tryd.f126.ntmps) := by kernel_rfl
noncomputable def P126 (n : Nat × Nat) := phiOf pk126 rk126 (fun xs => S126 n xs.1)
theorem call126 : CallOK Tryd.prog 126 := callOK_of Tryd.func126 (by kernel_rfl) (by kernel_rfl)
theorem env126 (n : Nat × Nat) : EnvOK Tryd.prog (E126 n) := envOK0 (consPhi_ok (FC90 n) call90 noPhi_ok) rfl rfl
theorem par126 (n : Nat × Nat) : EnvPar (E126 n) := envPar0 (consPhi_par phiOf_Par1 noPhi_par) rfl
theorem FC126 (n : Nat × Nat) : FCs Tryd.prog 126 (P126 n) := phiOf_FCs fun xs r h vs hv => FC.of_runG tabOK eqsOK (env126 n) (par126 n) mixed (fun _ p _ => noScope_ok p.1 p.2) Tryd.func126 (c := c126) (an := an126) (pks := pk126) (rks := rk126) (by kernel_rfl) (by kernel_rfl) hv ((S126_run n xs).symm.trans h)
abbrev R137 := List Int
noncomputable def c137 : Code := bodyOf Tryd.f137
noncomputable def an137 : Ann := (.s .l (.s .l (.s (.j [3] (.j [0, 3] (.s (.s .l (.j [0, 3] .l .l)) (.s (.j [0, 3] .l .l) .l)) .l) .l) .l)))
def pk137 : List PK := [.c (.int .u64)]
def rk137 : List RK := [.own (.int .i64) 2]
noncomputable def rt137 (st : St) : Option R137 := rtG rk137 st
noncomputable def E137 (n : Nat × Nat) : Env := { T := tab, phi := (consPhi 41 (fun _ => true) (P41 n) noPhi), eff := fun _ => false, fuel := n.1, hold := n.2 }
noncomputable def kq137_1 (n : Nat × Nat) : St → Option R137 := run (E137 n) (cB (cB (cB c137))) (Ann.snd (Ann.snd (Ann.snd an137))) rt137 (fun _ _ => none) rt137
noncomputable def xb137_3 (n : Nat × Nat) : Nat → St → Option R137 := fun j s => bif Nat.beq j 0 then normC [3] s (kq137_1 n) else (fun _ _ => none) j s
noncomputable def F137_4 (n : Nat × Nat) : (St → Option R137) → St → Option R137 := fun K s => run (E137 n) (cA (cA (cA (cB (cB c137))))) (Ann.fst (Ann.fst (Ann.fst (Ann.snd (Ann.snd an137))))) (fun s => normC [0, 3] s K) (xb137_3 n) rt137 s
noncomputable def L137_1 (n : Nat × Nat) (m : Nat) (v0 : Int) (out3 : List Int) : Option R137 := loopN (F137_4 n) m { tm := [.c (.int .u64 v0), uu, uu, .own 3 none false, uu, uu, uu, uu, uu, uu, uu, uu, uu, uu, uu, uu], hp := (upd emp 3 (.arr (.int .i64) out3 false)) }
theorem L137_1_eq (n : Nat × Nat) (m1 : Nat) (v0 : Int) (out3 : List Int) : L137_1 n (m1 + 1) v0 out3 =
 (bif (v0 != 0) then (S41 n v0).bind fun r1' =>
 (bif decide (out3.length + [r1'].length ≤ lim) then L137_1 n m1 (wr .u64 (BitVec.ofInt (IntKind.bits .u64) v0 &&& BitVec.ofInt (IntKind.bits .u64) (wr .u64 (v0 - 1))).toNat) (out3 ++ [r1'])
 else none)
 else some out3) := by kernel_rfl
noncomputable def S137 (n : Nat × Nat) (v0 : Int) : Option R137 := run (E137 n) c137 an137 rt137 (fun _ _ => none) rt137 { tm := [.c (.int .u64 v0), uu, uu, uu, uu, uu, uu, uu, uu, uu, uu, uu, uu, uu, uu, uu], hp := emp }
theorem S137_eq (n : Nat × Nat) (v0 : Int) : S137 n v0 =
    L137_1 n n.1 v0 [] := by kernel_rfl
theorem S137_run (n : Nat × Nat) (xs : pksDen pk137) : S137 n xs.1 = runG (E137 n) noScope c137 an137 (rtG rk137) (fun _ _ => none) (rtG rk137) (st0 pk137 xs Tryd.f137.ntmps) := by kernel_rfl
noncomputable def P137 (n : Nat × Nat) := phiOf pk137 rk137 (fun xs => S137 n xs.1)
theorem call137 : CallOK Tryd.prog 137 := callOK_of Tryd.func137 (by kernel_rfl) (by kernel_rfl)
theorem env137 (n : Nat × Nat) : EnvOK Tryd.prog (E137 n) := envOK0 (consPhi_ok (FC41 n) call41 noPhi_ok) rfl rfl
theorem par137 (n : Nat × Nat) : EnvPar (E137 n) := envPar0 (consPhi_par phiOf_Par1 noPhi_par) rfl
theorem FC137 (n : Nat × Nat) : FCs Tryd.prog 137 (P137 n) := phiOf_FCs fun xs r h vs hv => FC.of_runG tabOK eqsOK (env137 n) (par137 n) mixed (fun _ p _ => noScope_ok p.1 p.2) Tryd.func137 (c := c137) (an := an137) (pks := pk137) (rks := rk137) (by kernel_rfl) (by kernel_rfl) hv ((S137_run n xs).symm.trans h)
/- (headword/fact.Book).explained$1 -/
abbrev R144 := Bool
noncomputable def c144 : Code := bodyOf Tryd.f144
noncomputable def an144 : Ann := .l
def pk144 : List PK := [.c (.pair (.int .i64) (.int .i64)), .p (.int .u64)]
def rk144 : List RK := [.c .bool 3]
noncomputable def rt144 (st : St) : Option R144 := rtG rk144 st
noncomputable def E144 (n : Nat × Nat) : Env := { T := tab, phi := noPhi, eff := fun _ => false, fuel := n.1, hold := n.2 }
noncomputable def S144 (n : Nat × Nat) (p0 : Int × Int) (v1 : Int) : Option R144 := run (E144 n) c144 an144 rt144 (fun _ _ => none) rt144 { tm := [.agg [.int .i64 p0.1, .int .i64 p0.2], .iptr [.int .u64 v1], uu, uu, uu, uu, uu, uu, uu, uu, uu, uu, uu, uu, uu, uu, uu, uu], hp := emp }
theorem S144_eq (n : Nat × Nat) (p0 : Int × Int) (v1 : Int) : S144 n p0 v1 =
 (bif inB 0 2 then (idx [p0.1, p0.2] 0).bind fun x1' =>
 (bif decide (x1' < 0) then none
 else ((bif (((wr .u64 (BitVec.ofInt (IntKind.bits .u64) (Int.fdiv v1 (2 ^ (min (Int.toNat x1') (IntKind.bits .u64)))) &&& BitVec.ofInt (IntKind.bits .u64) 1).toNat) == 0) == true) then (bif inB 1 2 then (idx [p0.1, p0.2] 1).bind fun x2' =>
 (bif decide (x2' < 0) then none
 else some ((wr .u64 (BitVec.ofInt (IntKind.bits .u64) (Int.fdiv v1 (2 ^ (min (Int.toNat x2') (IntKind.bits .u64)))) &&& BitVec.ofInt (IntKind.bits .u64) 1).toNat) == 0))
 else none)
 else some false)).bind fun b3' =>
 some b3')
 else none) := by kernel_rfl
theorem S144_run (n : Nat × Nat) (xs : pksDen pk144) : S144 n xs.1 xs.2.1 = runG (E144 n) noScope c144 an144 (rtG rk144) (fun _ _ => none) (rtG rk144) (st0 pk144 xs Tryd.f144.ntmps) := by kernel_rfl
noncomputable def P144 (n : Nat × Nat) := phiOf pk144 rk144 (fun xs => S144 n xs.1 xs.2.1)
theorem call144 : CallOK Tryd.prog 144 := callOK_of Tryd.func144 (by kernel_rfl) (by kernel_rfl)
theorem env144 (n : Nat × Nat) : EnvOK Tryd.prog (E144 n) := envOK0 noPhi_ok rfl rfl
theorem par144 (n : Nat × Nat) : EnvPar (E144 n) := envPar0 noPhi_par rfl
theorem FC144 (n : Nat × Nat) : FCs Tryd.prog 144 (P144 n) := phiOf_FCs fun xs r h vs hv => FC.of_runG tabOK eqsOK (env144 n) (par144 n) mixed (fun _ p _ => noScope_ok p.1 p.2) Tryd.func144 (c := c144) (an := an144) (pks := pk144) (rks := rk144) (by kernel_rfl) (by kernel_rfl) hv ((S144_run n xs).symm.trans h)
/- slices.IndexFunc[[][2]int,[2]int] -/
abbrev R148c144 := Int
noncomputable def c148c144 : Code := bodyOf Tryd.f148
noncomputable def an148c144 : Ann := (.s .l (.s (.s .l (.j [] (.j [0, 1, 7, 8] (.s .l (.s (.j [0, 1, 7, 8] .l .l) (.s (.j [0, 1, 7, 8] (.s .l (.s .l (.j [0, 1, 7, 8] .l .l))) .l) .l))) .l) .l)) .l))
def pk148c144 : List PK := [.c (.sl (.pair (.int .i64) (.int .i64))), .f 144 [(.int .u64)]]
def rk148c144 : List RK := [.c (.int .i64) 4]
noncomputable def rt148c144 (st : St) : Option R148c144 := rtG rk148c144 st
noncomputable def E148c144 (n : Nat × Nat) : Env := { T := tab, phi := (consPhi 144 (fun _ => true) (P144 n) noPhi), eff := fun _ => false, fuel := n.1, hold := n.2, pcl := [11] }
noncomputable def kq148c144_1 (n : Nat × Nat) : St → Option R148c144 := run (E148c144 n) (cB (cB c148c144)) (Ann.snd (Ann.snd an148c144)) rt148c144 (fun _ _ => none) rt148c144
noncomputable def xb148c144_3 (n : Nat × Nat) : Nat → St → Option R148c144 := fun j s => bif Nat.beq j 0 then normC [] s (kq148c144_1 n) else (fun _ _ => none) j s
noncomputable def F148c144_4 (n : Nat × Nat) : (St → Option R148c144) → St → Option R148c144 := fun K s => run (E148c144 n) (cA (cA (cB (cA (cB c148c144))))) (Ann.fst (Ann.fst (Ann.snd (Ann.fst (Ann.snd an148c144))))) (fun s => normC [0, 1, 7, 8] s K) (xb148c144_3 n) rt148c144 s
noncomputable def L148c144_1 (n : Nat × Nat) (m : Nat) (s0 : List (Int × Int)) (f1_0 : Int) (v7 : Int) (v8 : Int) : Option R148c144 := loopN (F148c144_4 n) m { tm := [.c (.sl (.pair (.int .i64) (.int .i64)) s0 false), .fn 144 [.iptr [.int .u64 f1_0]], uu, uu, uu, uu, uu, .c (.int .i64 v7), .c (.int .i64 v8), uu, uu, uu, uu, uu, uu, uu, uu, uu, uu], hp := emp }
theorem L148c144_1_eq (n : Nat × Nat) (m1 : Nat) (s0 : List (Int × Int)) (f1_0 : Int) (v7 : Int) (v8 : Int) : L148c144_1 n (m1 + 1) s0 f1_0 v7 v8 =
 (bif decide (v8 < v7) then (idx s0 v8).bind fun x1' =>
 (S144 n x1' f1_0).bind fun r2' =>
 (bif r2' then some v8
 else L148c144_1 n m1 s0 f1_0 v7 (wr .i64 (v8 + 1)))
 else some (-1)) := by kernel_rfl
noncomputable def S148c144 (n : Nat × Nat) (s0 : List (Int × Int)) (cp_1_0 : Int) : Option R148c144 := run (E148c144 n) c148c144 an148c144 rt148c144 (fun _ _ => none) rt148c144 { tm := [.c (.sl (.pair (.int .i64) (.int .i64)) s0 false), .fn 144 [.iptr [.int .u64 cp_1_0]], uu, uu, uu, uu, uu, uu, uu, uu, uu, uu, uu, uu, uu, uu, uu, uu, uu], hp := emp }
theorem S148c144_eq (n : Nat × Nat) (s0 : List (Int × Int)) (cp_1_0 : Int) : S148c144 n s0 cp_1_0 =
    L148c144_1 n n.1 s0 cp_1_0 (s0.length : Int) 0 := by kernel_rfl
theorem S148c144_run (n : Nat × Nat) (xs : pksDen pk148c144) : S148c144 n xs.1 xs.2.1.1 = runG (E148c144 n) noScope c148c144 an148c144 (rtG rk148c144) (fun _ _ => none) (rtG rk148c144) (st0 pk148c144 xs Tryd.f148.ntmps) := by kernel_rfl
noncomputable def P148c144 (n : Nat × Nat) := phiOf pk148c144 rk148c144 (fun xs => S148c144 n xs.1 xs.2.1.1)
theorem call148 : CallOK Tryd.prog 148 := callOK_of Tryd.func148 (by kernel_rfl) (by kernel_rfl)
theorem env148c144 (n : Nat × Nat) : EnvOK Tryd.prog (E148c144 n) := envOK0 (consPhi_ok (FC144 n) call144 noPhi_ok) rfl rfl
theorem par148c144 (n : Nat × Nat) : EnvPar (E148c144 n) := envPar0 (consPhi_par phiOf_Par1 noPhi_par) rfl
theorem FC148c144 (n : Nat × Nat) : FCs Tryd.prog 148 (P148c144 n) := phiOf_FCs fun xs r h vs hv => FC.of_runG tabOK eqsOK (env148c144 n) (par148c144 n) mixed (fun _ p _ => noScope_ok p.1 p.2) Tryd.func148 (c := c148c144) (an := an148c144) (pks := pk148c144) (rks := rk148c144) (by kernel_rfl) (by kernel_rfl) hv ((S148c144_run n xs).symm.trans h)
/- slices.ContainsFunc[[][2]int,[2]int] -/
abbrev R143c144 := Bool
noncomputable def c143c144 : Code := bodyOf Tryd.f143
noncomputable def an143c144 : Ann := .l
def pk143c144 : List PK := [.c (.sl (.pair (.int .i64) (.int .i64))), .f 144 [(.int .u64)]]
def rk143c144 : List RK := [.c .bool 4]
noncomputable def rt143c144 (st : St) : Option R143c144 := rtG rk143c144 st
noncomputable def E143c144 (n : Nat × Nat) : Env := { T := tab, phi := (consPhi 148 (isFns [none, some 144]) (P148c144 n) noPhi), eff := fun _ => false, fuel := n.1, hold := n.2 }
noncomputable def S143c144 (n : Nat × Nat) (s0 : List (Int × Int)) (cp_1_0 : Int) : Option R143c144 := run (E143c144 n) c143c144 an143c144 rt143c144 (fun _ _ => none) rt143c144 { tm := [.c (.sl (.pair (.int .i64) (.int .i64)) s0 false), .fn 144 [.iptr [.int .u64 cp_1_0]], uu, uu, uu, uu, uu, uu, uu], hp := emp }
theorem S143c144_eq (n : Nat × Nat) (s0 : List (Int × Int)) (cp_1_0 : Int) : S143c144 n s0 cp_1_0 =
 (S148c144 n s0 cp_1_0).bind fun r1' =>
 some (decide (r1' ≥ 0)) := by kernel_rfl
theorem S143c144_run (n : Nat × Nat) (xs : pksDen pk143c144) : S143c144 n xs.1 xs.2.1.1 = runG (E143c144 n) noScope c143c144 an143c144 (rtG rk143c144) (fun _ _ => none) (rtG rk143c144) (st0 pk143c144 xs Tryd.f143.ntmps) := by kernel_rfl
noncomputable def P143c144 (n : Nat × Nat) := phiOf pk143c144 rk143c144 (fun xs => S143c144 n xs.1 xs.2.1.1)
theorem call143 : CallOK Tryd.prog 143 := callOK_of Tryd.func143 (by kernel_rfl) (by kernel_rfl)
theorem env143c144 (n : Nat × Nat) : EnvOK Tryd.prog (E143c144 n) := envOK0 (consPhi_ok (FC148c144 n) call148 noPhi_ok) rfl rfl
theorem par143c144 (n : Nat × Nat) : EnvPar (E143c144 n) := envPar0 (consPhi_par phiOf_Par1 noPhi_par) rfl
theorem FC143c144 (n : Nat × Nat) : FCs Tryd.prog 143 (P143c144 n) := phiOf_FCs fun xs r h vs hv => FC.of_runG tabOK eqsOK (env143c144 n) (par143c144 n) mixed (fun _ p _ => noScope_ok p.1 p.2) Tryd.func143 (c := c143c144) (an := an143c144) (pks := pk143c144) (rks := rk143c144) (by kernel_rfl) (by kernel_rfl) hv ((S143c144_run n xs).symm.trans h)
/- (headword/fact.Book).explained -/
abbrev R138 := Bool
noncomputable def c138 : Code := bodyOf Tryd.f138
noncomputable def an138 : Ann := .l
def pk138 : List PK := [.c (.pair (.int .i64) (.sl (.pair (.int .i64) (.int .i64)))), .c (.int .u64)]
def rk138 : List RK := [.c .bool 4]
noncomputable def rt138 (st : St) : Option R138 := rtG rk138 st
noncomputable def E138 (n : Nat × Nat) : Env := { T := tab, phi := (consPhi 143 (isFns [none, some 144]) (P143c144 n) noPhi), eff := fun _ => false, fuel := n.1, hold := n.2 }
noncomputable def S138 (n : Nat × Nat) (b0 : Int × List (Int × Int)) (v1 : Int) : Option R138 := run (E138 n) c138 an138 rt138 (fun _ _ => none) rt138 { tm := [.agg [.int .i64 b0.1, .sl (.pair (.int .i64) (.int .i64)) b0.2 false], .c (.int .u64 v1), uu, uu, uu, uu, uu, uu, uu, uu], hp := emp }
theorem S138_eq (n : Nat × Nat) (b0 : Int × List (Int × Int)) (v1 : Int) : S138 n b0 v1 =
 (S143c144 n b0.2 v1).bind fun r1' =>
 some (!r1') := by kernel_rfl
theorem S138_run (n : Nat × Nat) (xs : pksDen pk138) : S138 n xs.1 xs.2.1 = runG (E138 n) noScope c138 an138 (rtG rk138) (fun _ _ => none) (rtG rk138) (st0 pk138 xs Tryd.f138.ntmps) := by kernel_rfl
noncomputable def P138 (n : Nat × Nat) := phiOf pk138 rk138 (fun xs => S138 n xs.1 xs.2.1)
theorem call138 : CallOK Tryd.prog 138 := callOK_of Tryd.func138 (by kernel_rfl) (by kernel_rfl)
theorem env138 (n : Nat × Nat) : EnvOK Tryd.prog (E138 n) := envOK0 (consPhi_ok (FC143c144 n) call143 noPhi_ok) rfl rfl
theorem par138 (n : Nat × Nat) : EnvPar (E138 n) := envPar0 (consPhi_par phiOf_Par1 noPhi_par) rfl
theorem FC138 (n : Nat × Nat) : FCs Tryd.prog 138 (P138 n) := phiOf_FCs fun xs r h vs hv => FC.of_runG tabOK eqsOK (env138 n) (par138 n) mixed (fun _ p _ => noScope_ok p.1 p.2) Tryd.func138 (c := c138) (an := an138) (pks := pk138) (rks := rk138) (by kernel_rfl) (by kernel_rfl) hv ((S138_run n xs).symm.trans h)
/- (headword/fact.Book).shortest -/
abbrev R127 := List Int × Int
noncomputable def c127 : Code := bodyOf Tryd.f127
noncomputable def an127 : Ann := (.s .l (.s .l (.s .l (.s (.s .l (.j [4, 5] (.j [1, 4, 5, 10, 11, 21, 22, 23, 24, 25, 26, 27, 28, 29, 34, 35, 36, 37, 38] (.s .l (.s (.j [1, 4, 5, 10, 11, 21, 22, 23, 24, 25, 26, 27, 28, 29, 34, 35, 36, 37, 38] .l .l) (.j [] (.j [1, 4, 5, 10, 11, 21, 22, 23, 24, 25, 26, 27, 28, 29, 34, 35, 36, 37, 38] (.s .l (.s .l (.s (.s .l (.j [1, 4, 5, 7, 10, 11, 21, 22, 23, 24, 25, 26, 27, 28, 29, 34, 35, 36, 37, 38] .l .l)) (.s (.s .l (.j [1, 4, 5, 7, 10, 11, 21, 22, 23, 24, 25, 26, 27, 28, 29, 34, 35, 36, 37, 38] .l .l)) (.s .l (.s .l (.j [1, 4, 5, 10, 11, 21, 22, 23, 24, 25, 26, 27, 28, 29, 34, 35, 36, 37, 38] .l .l))))))) .l) .l))) .l) .l)) .l))))
def pk127 : List PK := [.c (.pair (.int .i64) (.sl (.pair (.int .i64) (.int .i64))))]
def rk127 : List RK := [.own (.int .i64) 2, .c (.int .i64) 3]
noncomputable def rt127 (st : St) : Option R127 := rtG rk127 st
noncomputable def E127 (n : Nat × Nat) : Env := { T := tab, phi := (consPhi 37 (fun _ => true) (P37 n) (consPhi 137 (fun _ => true) (P137 n) (consPhi 138 (fun _ => true) (P138 n) noPhi))), eff := fun _ => false, fuel := n.1, hold := n.2 }
noncomputable def kq127_1 (n : Nat × Nat) : St → Option R127 := run (E127 n) (cB (cB (cB (cB c127)))) (Ann.snd (Ann.snd (Ann.snd (Ann.snd an127)))) rt127 (fun _ _ => none) rt127
noncomputable def xb127_3 (n : Nat × Nat) : Nat → St → Option R127 := fun j s => bif Nat.beq j 0 then normC [4, 5] s (kq127_1 n) else (fun _ _ => none) j s
noncomputable def F127_4 (n : Nat × Nat) : (St → Option R127) → St → Option R127 := fun K s => run (E127 n) (cA (cA (cB (cA (cB (cB (cB c127))))))) (Ann.fst (Ann.fst (Ann.snd (Ann.fst (Ann.snd (Ann.snd (Ann.snd an127))))))) (fun s => normC [1, 4, 5, 10, 11, 21, 22, 23, 24, 25, 26, 27, 28, 29, 34, 35, 36, 37, 38] s K) (xb127_3 n) rt127 s
noncomputable def kq127_7 (n : Nat × Nat) (m1 : Nat) : St → Option R127 := run (E127 n) (cB (cB (cB (cA (cA (cB (cA (cB (cB (cB c127)))))))))) (Ann.snd (Ann.snd (Ann.snd (Ann.fst (Ann.fst (Ann.snd (Ann.fst (Ann.snd (Ann.snd (Ann.snd an127)))))))))) (fun s => normC [1, 4, 5, 10, 11, 21, 22, 23, 24, 25, 26, 27, 28, 29, 34, 35, 36, 37, 38] s (loopN (F127_4 n) m1)) (xb127_3 n) rt127
noncomputable def L127_1 (n : Nat × Nat) (m : Nat) (many5 : Int) (v10 : Int) (v11 : Int) (b1_0 : Int) (b1_1 : List (Int × Int)) (best4 : List Int) : Option R127 := loopN (F127_4 n) m { tm := [uu, .ptr 1 0, uu, uu, .own 4 none false, .c (.int .i64 many5), uu, uu, uu, uu, .c (.int .u64 v10), .c (.int .u64 v11), uu, uu, uu, uu, uu, uu, uu, uu, uu, uu, uu, uu, uu, uu, uu, uu, uu, uu, uu, uu, uu, uu, uu, uu, uu, uu, uu, uu, uu, uu, uu, uu, uu, uu, uu, uu, uu, uu, uu], hp := (upd (upd emp 4 (.arr (.int .i64) best4 false)) 1 (.box [.int .i64 b1_0, .sl (.pair (.int .i64) (.int .i64)) b1_1 false])) }
noncomputable def L127_2 (n : Nat × Nat) (m1 : Nat) (many5 : Int) (v10 : Int) (v11 : Int) (b1_0 : Int) (b1_1 : List (Int × Int)) (best4 : List Int) : Option R127 := loopN (fun _ => (kq127_7 n m1)) n.2 { tm := [uu, .ptr 1 0, uu, uu, .own 4 none false, .c (.int .i64 many5), uu, uu, uu, uu, .c (.int .u64 v10), .c (.int .u64 v11), uu, uu, uu, uu, uu, uu, uu, uu, uu, uu, uu, uu, uu, uu, uu, uu, uu, uu, uu, uu, uu, uu, uu, uu, uu, uu, uu, uu, uu, uu, uu, uu, uu, uu, uu, uu, uu, uu, uu], hp := (upd (upd emp 4 (.arr (.int .i64) best4 false)) 1 (.box [.int .i64 b1_0, .sl (.pair (.int .i64) (.int .i64)) b1_1 false])) }
theorem L127_1_eq (n : Nat × Nat) (m1 : Nat) (many5 : Int) (v10 : Int) (v11 : Int) (b1_0 : Int) (b1_1 : List (Int × Int)) (best4 : List Int) : L127_1 n (m1 + 1) many5 v10 v11 b1_0 b1_1 best4 =
 (bif decide (v11 < v10) then (S137 n v11).bind fun r1' =>
 (S138 n (b1_0, b1_1) v11).bind fun r2' =>
 ((bif ((!r2') == false) then ((bif (decide (many5 > 0) == true) then some (decide ((r1'.length : Int) > (best4.length : Int)))
 else some false)).bind fun b3' =>
 some b3'
 else some true)).bind fun b4' =>
 (bif b4' then L127_2 n m1 many5 v10 v11 b1_0 b1_1 best4
 else ((bif ((many5 == 0) == false) then some (decide ((r1'.length : Int) < (best4.length : Int)))
 else some true)).bind fun b5' =>
 (bif b5' then L127_2 n m1 1 v10 v11 b1_0 b1_1 r1'
 else (S37 n r1' best4).bind fun r6' =>
 (bif decide (r6' < 0) then L127_2 n m1 (wr .i64 (many5 + 1)) v10 v11 b1_0 b1_1 r1'
 else L127_2 n m1 (wr .i64 (many5 + 1)) v10 v11 b1_0 b1_1 best4)))
 else some (best4, many5)) := by kernel_rfl
theorem L127_2_raw (n : Nat × Nat) (m1 : Nat) (many5 : Int) (v10 : Int) (v11 : Int) (b1_0 : Int) (b1_1 : List (Int × Int)) (best4 : List Int) : (kq127_7 n m1) { tm := [uu, .ptr 1 0, uu, uu, .own 4 none false, .c (.int .i64 many5), uu, uu, uu, uu, .c (.int .u64 v10), .c (.int .u64 v11), uu, uu, uu, uu, uu, uu, uu, uu, uu, uu, uu, uu, uu, uu, uu, uu, uu, uu, uu, uu, uu, uu, uu, uu, uu, uu, uu, uu, uu, uu, uu, uu, uu, uu, uu, uu, uu, uu, uu], hp := (upd (upd emp 4 (.arr (.int .i64) best4 false)) 1 (.box [.int .i64 b1_0, .sl (.pair (.int .i64) (.int .i64)) b1_1 false])) } =
    L127_1 n m1 many5 v10 (wr .u64 (v11 + 1)) b1_0 b1_1 best4 := by kernel_rfl
noncomputable def S127 (n : Nat × Nat) (b0 : Int × List (Int × Int)) : Option R127 := run (E127 n) c127 an127 rt127 (fun _ _ => none) rt127 { tm := [.agg [.int .i64 b0.1, .sl (.pair (.int .i64) (.int .i64)) b0.2 false], uu, uu, uu, uu, uu, uu, uu, uu, uu, uu, uu, uu, uu, uu, uu, uu, uu, uu, uu, uu, uu, uu, uu, uu, uu, uu, uu, uu, uu, uu, uu, uu, uu, uu, uu, uu, uu, uu, uu, uu, uu, uu, uu, uu, uu, uu, uu, uu, uu, uu], hp := emp }
theorem S127_eq (n : Nat × Nat) (b0 : Int × List (Int × Int)) : S127 n b0 =
 (bif decide (b0.1 < 0) then none
 else L127_1 n n.1 0 (wr .u64 (1 * 2 ^ (min (Int.toNat b0.1) (IntKind.bits .u64)))) 0 b0.1 b0.2 []) := by kernel_rfl
theorem S127_run (n : Nat × Nat) (xs : pksDen pk127) : S127 n xs.1 = runG (E127 n) noScope c127 an127 (rtG rk127) (fun _ _ => none) (rtG rk127) (st0 pk127 xs Tryd.f127.ntmps) := by kernel_rfl
noncomputable def P127 (n : Nat × Nat) := phiOf pk127 rk127 (fun xs => S127 n xs.1)
theorem call127 : CallOK Tryd.prog 127 := callOK_of Tryd.func127 (by kernel_rfl) (by kernel_rfl)
theorem env127 (n : Nat × Nat) : EnvOK Tryd.prog (E127 n) := envOK0 (consPhi_ok (FC37 n) call37 (consPhi_ok (FC137 n) call137 (consPhi_ok (FC138 n) call138 noPhi_ok))) rfl rfl
theorem par127 (n : Nat × Nat) : EnvPar (E127 n) := envPar0 (consPhi_par phiOf_Par1 (consPhi_par phiOf_Par1 (consPhi_par phiOf_Par1 noPhi_par))) rfl
theorem FC127 (n : Nat × Nat) : FCs Tryd.prog 127 (P127 n) := phiOf_FCs fun xs r h vs hv => FC.of_runG tabOK eqsOK (env127 n) (par127 n) mixed (fun _ p _ => noScope_ok p.1 p.2) Tryd.func127 (c := c127) (an := an127) (pks := pk127) (rks := rk127) (by kernel_rfl) (by kernel_rfl) hv ((S127_run n xs).symm.trans h)
abbrev R113 := List Int × Int
noncomputable def c113 : Code := bodyOf Tryd.f113
noncomputable def an113 : Ann := (.s .l (.s (.s .l (.s .l (.j [1] .l .l))) .l))
def pk113 : List PK := [.c (.pair (.int .i64) (.sl (.pair (.int .i64) (.int .i64))))]
def rk113 : List RK := [.own (.int .i64) 2, .c (.int .i64) 3]
noncomputable def rt113 (st : St) : Option R113 := rtG rk113 st
noncomputable def E113 (n : Nat × Nat) : Env := { T := tab, phi := (consPhi 126 (fun _ => true) (P126 n) (consPhi 127 (fun _ => true) (P127 n) noPhi)), eff := fun _ => false, fuel := n.1, hold := n.2 }
noncomputable def S113 (n : Nat × Nat) (b0 : Int × List (Int × Int)) : Option R113 := run (E113 n) c113 an113 rt113 (fun _ _ => none) rt113 { tm := [.agg [.int .i64 b0.1, .sl (.pair (.int .i64) (.int .i64)) b0.2 false], uu, uu, uu, uu, uu, uu, uu, uu, uu, uu, uu, uu, uu, uu, uu, uu, uu], hp := emp }
theorem S113_eq (n : Nat × Nat) (b0 : Int × List (Int × Int)) : S113 n b0 =
 (S126 n b0).bind fun r1' =>
 (bif (r1' != 0) then some ([], r1')
 else (S127 n b0).bind fun r2' =>
 some (r2'.1, 0)) := by kernel_rfl
theorem S113_run (n : Nat × Nat) (xs : pksDen pk113) : S113 n xs.1 = runG (E113 n) noScope c113 an113 (rtG rk113) (fun _ _ => none) (rtG rk113) (st0 pk113 xs Tryd.f113.ntmps) := by kernel_rfl
noncomputable def P113 (n : Nat × Nat) := phiOf pk113 rk113 (fun xs => S113 n xs.1)
theorem call113 : CallOK Tryd.prog 113 := callOK_of Tryd.func113 (by kernel_rfl) (by kernel_rfl)
theorem env113 (n : Nat × Nat) : EnvOK Tryd.prog (E113 n) := envOK0 (consPhi_ok (FC126 n) call126 (consPhi_ok (FC127 n) call127 noPhi_ok)) rfl rfl
theorem par113 (n : Nat × Nat) : EnvPar (E113 n) := envPar0 (consPhi_par phiOf_Par1 (consPhi_par phiOf_Par1 noPhi_par)) rfl
theorem FC113 (n : Nat × Nat) : FCs Tryd.prog 113 (P113 n) := phiOf_FCs fun xs r h vs hv => FC.of_runG tabOK eqsOK (env113 n) (par113 n) mixed (fun _ p _ => noScope_ok p.1 p.2) Tryd.func113 (c := c113) (an := an113) (pks := pk113) (rks := rk113) (by kernel_rfl) (by kernel_rfl) hv ((S113_run n xs).symm.trans h)
abbrev R66 := Int
noncomputable def c66 : Code := bodyOf Tryd.f66
noncomputable def an66 : Ann := (.s .l (.s (.j [1, 35, 36, 37, 38, 39, 40, 41, 42] (.s .l (.j [1, 35, 36, 37, 38, 39, 40, 41, 42] .l (.s .l (.j [1, 35, 36, 37, 38, 39, 40, 41, 42] .l .l)))) .l) (.s (.s .l (.j [] (.j [1, 20, 21, 22, 35, 36, 37, 38, 39, 40, 41, 42] (.s .l (.s (.j [1, 20, 21, 22, 35, 36, 37, 38, 39, 40, 41, 42] .l .l) (.s (.j [1, 20, 21, 22, 35, 36, 37, 38, 39, 40, 41, 42] (.s .l (.j [1, 20, 21, 22, 35, 36, 37, 38, 39, 40, 41, 42] (.s .l (.j [1, 20, 21, 22, 35, 36, 37, 38, 39, 40, 41, 42] .l (.s .l (.j [1, 20, 21, 22, 35, 36, 37, 38, 39, 40, 41, 42] .l (.s .l (.j [1, 20, 21, 22, 35, 36, 37, 38, 39, 40, 41, 42] .l .l)))))) .l)) .l) .l))) .l) .l)) .l)))
def pk66 : List PK := [.c (.pair (.int .i64) (.sl (.pair (.int .i64) (.int .i64))))]
def rk66 : List RK := [.c (.int .i64) 2]
noncomputable def rt66 (st : St) : Option R66 := rtG rk66 st
noncomputable def E66 (n : Nat × Nat) : Env := { T := tab, phi := (consPhi 90 (fun _ => true) (P90 n) noPhi), eff := fun _ => false, fuel := n.1, hold := n.2 }
noncomputable def kq66_6 (n : Nat × Nat) : St → Option R66 := run (E66 n) (cB (cB (cB c66))) (Ann.snd (Ann.snd (Ann.snd an66))) rt66 (fun _ _ => none) rt66
noncomputable def xb66_8 (n : Nat × Nat) : Nat → St → Option R66 := fun j s => bif Nat.beq j 1 then normC [] s (kq66_6 n) else (fun _ _ => none) j s
noncomputable def F66_9 (n : Nat × Nat) : (St → Option R66) → St → Option R66 := fun K s => run (E66 n) (cA (cA (cB (cA (cB (cB c66)))))) (Ann.fst (Ann.fst (Ann.snd (Ann.fst (Ann.snd (Ann.snd an66)))))) (fun s => normC [1, 20, 21, 22, 35, 36, 37, 38, 39, 40, 41, 42] s K) (xb66_8 n) rt66 s
noncomputable def L66_1 (n : Nat × Nat) (m : Nat) (v20 : List (Int × Int)) (v21 : Int) (v22 : Int) (b1_0 : Int) (b1_1 : List (Int × Int)) : Option R66 := loopN (F66_9 n) m { tm := [uu, .ptr 1 0, uu, uu, uu, uu, uu, uu, uu, uu, uu, uu, uu, uu, uu, uu, uu, uu, uu, uu, .c (.sl (.pair (.int .i64) (.int .i64)) v20 false), .c (.int .i64 v21), .c (.int .i64 v22), uu, uu, uu, uu, uu, uu, uu, uu, uu, uu, uu, uu, uu, uu, uu, uu, uu, uu, uu, uu, uu, uu, uu, uu, uu, uu, uu, uu, uu, uu, uu, uu, uu, uu, uu], hp := (upd emp 1 (.box [.int .i64 b1_0, .sl (.pair (.int .i64) (.int .i64)) b1_1 false])) }
theorem L66_1_eq (n : Nat × Nat) (m1 : Nat) (v20 : List (Int × Int)) (v21 : Int) (v22 : Int) (b1_0 : Int) (b1_1 : List (Int × Int)) : L66_1 n (m1 + 1) v20 v21 v22 b1_0 b1_1 =
 (bif decide (v22 < v21) then (idx v20 v22).bind fun x2' =>
 (bif inB 0 2 then (idx [x2'.1, x2'.2] 0).bind fun x3' =>
 (bif inB 1 2 then (idx [x2'.1, x2'.2] 1).bind fun x4' =>
 ((bif (decide ((if x4' < x3' then x4' else x3') < 0) == false) then (bif inB 0 2 then (idx [x2'.1, x2'.2] 0).bind fun x5' =>
 (bif inB 1 2 then (idx [x2'.1, x2'.2] 1).bind fun x6' =>
 some (decide ((if x6' > x5' then x6' else x5') ≥ b1_0))
 else none)
 else none)
 else some true)).bind fun b7' =>
 (bif b7' then some 2
 else (bif inB 0 2 then (idx [x2'.1, x2'.2] 0).bind fun x8' =>
 (bif inB 1 2 then (idx [x2'.1, x2'.2] 1).bind fun x9' =>
 (bif (x8' == x9') then some 5
 else (bif bounds none (some v22) none b1_1.length then (S90 n (b1_1.take (Int.toNat v22)) x2').bind fun r10' =>
 (bif r10' then some 6
 else L66_1 n m1 v20 v21 (wr .i64 (v22 + 1)) b1_0 b1_1)
 else none))
 else none)
 else none))
 else none)
 else none)
 else some 0) := by kernel_rfl
noncomputable def S66 (n : Nat × Nat) (b0 : Int × List (Int × Int)) : Option R66 := run (E66 n) c66 an66 rt66 (fun _ _ => none) rt66 { tm := [.agg [.int .i64 b0.1, .sl (.pair (.int .i64) (.int .i64)) b0.2 false], uu, uu, uu, uu, uu, uu, uu, uu, uu, uu, uu, uu, uu, uu, uu, uu, uu, uu, uu, uu, uu, uu, uu, uu, uu, uu, uu, uu, uu, uu, uu, uu, uu, uu, uu, uu, uu, uu, uu, uu, uu, uu, uu, uu, uu, uu, uu, uu, uu, uu, uu, uu, uu, uu, uu, uu, uu], hp := emp }
theorem S66_eq (n : Nat × Nat) (b0 : Int × List (Int × Int)) : S66 n b0 =
 ((bif (decide (b0.1 < 1) == false) then some (decide (b0.1 > 7))
 else some true)).bind fun b1' =>
 (bif b1' then some 1
 else (bif decide ((b0.2.length : Int) > 16) then some 3
 else L66_1 n n.1 b0.2 (b0.2.length : Int) 0 b0.1 b0.2)) := by kernel_rfl
theorem S66_run (n : Nat × Nat) (xs : pksDen pk66) : S66 n xs.1 = runG (E66 n) noScope c66 an66 (rtG rk66) (fun _ _ => none) (rtG rk66) (st0 pk66 xs Tryd.f66.ntmps) := by kernel_rfl
noncomputable def P66 (n : Nat × Nat) := phiOf pk66 rk66 (fun xs => S66 n xs.1)
theorem call66 : CallOK Tryd.prog 66 := callOK_of Tryd.func66 (by kernel_rfl) (by kernel_rfl)
theorem env66 (n : Nat × Nat) : EnvOK Tryd.prog (E66 n) := envOK0 (consPhi_ok (FC90 n) call90 noPhi_ok) rfl rfl
theorem par66 (n : Nat × Nat) : EnvPar (E66 n) := envPar0 (consPhi_par phiOf_Par1 noPhi_par) rfl
theorem FC66 (n : Nat × Nat) : FCs Tryd.prog 66 (P66 n) := phiOf_FCs fun xs r h vs hv => FC.of_runG tabOK eqsOK (env66 n) (par66 n) mixed (fun _ p _ => noScope_ok p.1 p.2) Tryd.func66 (c := c66) (an := an66) (pks := pk66) (rks := rk66) (by kernel_rfl) (by kernel_rfl) hv ((S66_run n xs).symm.trans h)
abbrev R33 := (Int × Int × Int × Int × Int × Int × Int × Int) × Int
noncomputable def c33 : Code := bodyOf Tryd.f33
noncomputable def an33 : Ann := (.s .l (.s .l (.s (.s .l (.s .l (.j [1, 2, 4] .l .l))) (.s (.s .l (.j [2, 4] (.j [2, 4, 18, 19, 20] (.s .l (.s (.j [2, 4, 18, 19, 20] .l .l) (.s (.j [2, 4, 18, 19, 20] .l .l) .l))) .l) .l)) .l))))
def pk33 : List PK := [.c (.pair (.int .i64) (.sl (.pair (.int .i64) (.int .i64))))]
def rk33 : List RK := [.box (.pair (.int .i64) (.pair (.int .u64) (.pair (.int .u64) (.pair (.int .u64) (.pair (.int .u64) (.pair (.int .u64) (.pair (.int .u64) (.int .u64)))))))) 2, .c (.int .i64) 3]
noncomputable def rt33 (st : St) : Option R33 := rtG rk33 st
noncomputable def E33 (n : Nat × Nat) : Env := { T := tab, phi := (consPhi 66 (fun _ => true) (P66 n) noPhi), eff := fun _ => false, fuel := n.1, hold := n.2 }
noncomputable def kq33_3 (n : Nat × Nat) : St → Option R33 := run (E33 n) (cB (cB (cB (cB c33)))) (Ann.snd (Ann.snd (Ann.snd (Ann.snd an33)))) rt33 (fun _ _ => none) rt33
noncomputable def xb33_5 (n : Nat × Nat) : Nat → St → Option R33 := fun j s => bif Nat.beq j 0 then normC [2, 4] s (kq33_3 n) else (fun _ _ => none) j s
noncomputable def F33_6 (n : Nat × Nat) : (St → Option R33) → St → Option R33 := fun K s => run (E33 n) (cA (cA (cB (cA (cB (cB (cB c33))))))) (Ann.fst (Ann.fst (Ann.snd (Ann.fst (Ann.snd (Ann.snd (Ann.snd an33))))))) (fun s => normC [2, 4, 18, 19, 20] s K) (xb33_5 n) rt33 s
noncomputable def L33_1 (n : Nat × Nat) (m : Nat) (v18 : List (Int × Int)) (v19 : Int) (v20 : Int) (v2_0 : Int) (v2_1 : Int) (v2_2 : Int) (v2_3 : Int) (v2_4 : Int) (v2_5 : Int) (v2_6 : Int) (v2_7 : Int) (w4_0 : Int) (w4_1 : Int) (w4_2 : Int) (w4_3 : Int) (w4_4 : Int) (w4_5 : Int) (w4_6 : Int) (w4_7 : Int) : Option R33 := loopN (F33_6 n) m { tm := [uu, uu, .ptr 2 0, uu, .ptr 4 0, uu, uu, uu, uu, uu, uu, uu, uu, uu, uu, uu, uu, uu, .c (.sl (.pair (.int .i64) (.int .i64)) v18 false), .c (.int .i64 v19), .c (.int .i64 v20), uu, uu, uu, uu, uu, uu, uu, uu, uu, uu, uu, uu, uu, uu, uu, uu], hp := (upd (upd emp 4 (.box [.int .i64 w4_0, .int .u64 w4_1, .int .u64 w4_2, .int .u64 w4_3, .int .u64 w4_4, .int .u64 w4_5, .int .u64 w4_6, .int .u64 w4_7])) 2 (.box [.int .i64 v2_0, .int .u64 v2_1, .int .u64 v2_2, .int .u64 v2_3, .int .u64 v2_4, .int .u64 v2_5, .int .u64 v2_6, .int .u64 v2_7])) }
theorem L33_1_eq (n : Nat × Nat) (m1 : Nat) (v18 : List (Int × Int)) (v19 : Int) (v20 : Int) (v2_0 : Int) (v2_1 : Int) (v2_2 : Int) (v2_3 : Int) (v2_4 : Int) (v2_5 : Int) (v2_6 : Int) (v2_7 : Int) (w4_0 : Int) (w4_1 : Int) (w4_2 : Int) (w4_3 : Int) (w4_4 : Int) (w4_5 : Int) (w4_6 : Int) (w4_7 : Int) : L33_1 n (m1 + 1) v18 v19 v20 v2_0 v2_1 v2_2 v2_3 v2_4 v2_5 v2_6 v2_7 w4_0 w4_1 w4_2 w4_3 w4_4 w4_5 w4_6 w4_7 =
 (bif decide (v20 < v19) then (idx v18 v20).bind fun x2' =>
 (bif inB 0 2 then (idx [x2'.1, x2'.2] 0).bind fun x3' =>
 (bif inB x3' 7 then (idx [w4_1, w4_2, w4_3, w4_4, w4_5, w4_6, w4_7] x3').bind fun x4' =>
 (bif inB 1 2 then (idx [x2'.1, x2'.2] 1).bind fun x5' =>
 (bif decide (x5' < 0) then none
 else (bif inB x3' 7 then L33_1 n m1 v18 v19 (wr .i64 (v20 + 1)) v2_0 v2_1 v2_2 v2_3 v2_4 v2_5 v2_6 v2_7 w4_0 (bif (x3' == 0) then wr .u64 (BitVec.ofInt (IntKind.bits .u64) x4' ||| BitVec.ofInt (IntKind.bits .u64) (wr .u64 (1 * 2 ^ (min (Int.toNat x5') (IntKind.bits .u64))))).toNat else w4_1) (bif (x3' == 1) then wr .u64 (BitVec.ofInt (IntKind.bits .u64) x4' ||| BitVec.ofInt (IntKind.bits .u64) (wr .u64 (1 * 2 ^ (min (Int.toNat x5') (IntKind.bits .u64))))).toNat else w4_2) (bif (x3' == 2) then wr .u64 (BitVec.ofInt (IntKind.bits .u64) x4' ||| BitVec.ofInt (IntKind.bits .u64) (wr .u64 (1 * 2 ^ (min (Int.toNat x5') (IntKind.bits .u64))))).toNat else w4_3) (bif (x3' == 3) then wr .u64 (BitVec.ofInt (IntKind.bits .u64) x4' ||| BitVec.ofInt (IntKind.bits .u64) (wr .u64 (1 * 2 ^ (min (Int.toNat x5') (IntKind.bits .u64))))).toNat else w4_4) (bif (x3' == 4) then wr .u64 (BitVec.ofInt (IntKind.bits .u64) x4' ||| BitVec.ofInt (IntKind.bits .u64) (wr .u64 (1 * 2 ^ (min (Int.toNat x5') (IntKind.bits .u64))))).toNat else w4_5) (bif (x3' == 5) then wr .u64 (BitVec.ofInt (IntKind.bits .u64) x4' ||| BitVec.ofInt (IntKind.bits .u64) (wr .u64 (1 * 2 ^ (min (Int.toNat x5') (IntKind.bits .u64))))).toNat else w4_6) (bif (x3' == 6) then wr .u64 (BitVec.ofInt (IntKind.bits .u64) x4' ||| BitVec.ofInt (IntKind.bits .u64) (wr .u64 (1 * 2 ^ (min (Int.toNat x5') (IntKind.bits .u64))))).toNat else w4_7)
 else none))
 else none)
 else none)
 else none)
 else some ((w4_0, w4_1, w4_2, w4_3, w4_4, w4_5, w4_6, w4_7), 0)) := by kernel_rfl
noncomputable def S33 (n : Nat × Nat) (b0 : Int × List (Int × Int)) : Option R33 := run (E33 n) c33 an33 rt33 (fun _ _ => none) rt33 { tm := [.agg [.int .i64 b0.1, .sl (.pair (.int .i64) (.int .i64)) b0.2 false], uu, uu, uu, uu, uu, uu, uu, uu, uu, uu, uu, uu, uu, uu, uu, uu, uu, uu, uu, uu, uu, uu, uu, uu, uu, uu, uu, uu, uu, uu, uu, uu, uu, uu, uu, uu], hp := emp }
theorem S33_eq (n : Nat × Nat) (b0 : Int × List (Int × Int)) : S33 n b0 =
 (S66 n b0).bind fun r1' =>
 (bif (r1' != 0) then some ((b0.1, 0, 0, 0, 0, 0, 0, 0), r1')
 else L33_1 n n.1 b0.2 (b0.2.length : Int) 0 0 0 0 0 0 0 0 0 b0.1 0 0 0 0 0 0 0) := by kernel_rfl
theorem S33_run (n : Nat × Nat) (xs : pksDen pk33) : S33 n xs.1 = runG (E33 n) noScope c33 an33 (rtG rk33) (fun _ _ => none) (rtG rk33) (st0 pk33 xs Tryd.f33.ntmps) := by kernel_rfl
noncomputable def P33 (n : Nat × Nat) := phiOf pk33 rk33 (fun xs => S33 n xs.1)
theorem call33 : CallOK Tryd.prog 33 := callOK_of Tryd.func33 (by kernel_rfl) (by kernel_rfl)
theorem env33 (n : Nat × Nat) : EnvOK Tryd.prog (E33 n) := envOK0 (consPhi_ok (FC66 n) call66 noPhi_ok) rfl rfl
theorem par33 (n : Nat × Nat) : EnvPar (E33 n) := envPar0 (consPhi_par phiOf_Par1 noPhi_par) rfl
theorem FC33 (n : Nat × Nat) : FCs Tryd.prog 33 (P33 n) := phiOf_FCs fun xs r h vs hv => FC.of_runG tabOK eqsOK (env33 n) (par33 n) mixed (fun _ p _ => noScope_ok p.1 p.2) Tryd.func33 (c := c33) (an := an33) (pks := pk33) (rks := rk33) (by kernel_rfl) (by kernel_rfl) hv ((S33_run n xs).symm.trans h)
/- (headword/see.web).judged -/
abbrev R34 := Int
noncomputable def c34 : Code := bodyOf Tryd.f34
noncomputable def an34 : Ann := (.s .l (.s .l (.s (.s .l (.j [5] (.j [1, 5, 12, 13, 14, 27, 28, 29, 30, 36, 37, 38, 39] (.s .l (.s (.j [1, 5, 12, 13, 14, 27, 28, 29, 30, 36, 37, 38, 39] .l .l) (.j [] (.j [1, 5, 12, 13, 14, 27, 28, 29, 30, 36, 37, 38, 39] (.s .l (.s .l (.j [1, 5, 12, 13, 14, 27, 28, 29, 30, 36, 37, 38, 39] (.s .l (.j [1, 5, 12, 13, 14, 27, 28, 29, 30, 36, 37, 38, 39] .l (.s .l (.j [1, 5, 12, 13, 14, 27, 28, 29, 30, 36, 37, 38, 39] .l .l)))) .l))) .l) .l))) .l) .l)) (.s (.s .l (.j [] .l .l)) .l))))
def pk34 : List PK := [.c (.pair (.int .i64) (.pair (.int .u64) (.pair (.int .u64) (.pair (.int .u64) (.pair (.int .u64) (.pair (.int .u64) (.pair (.int .u64) (.int .u64)))))))), .c (.int .u64)]
def rk34 : List RK := [.c (.int .i64) 4]
noncomputable def rt34 (st : St) : Option R34 := rtG rk34 st
noncomputable def E34 (n : Nat × Nat) : Env := { T := tab, phi := noPhi, eff := fun _ => false, fuel := n.1, hold := n.2 }
noncomputable def kq34_1 (n : Nat × Nat) : St → Option R34 := run (E34 n) (cB (cB (cB c34))) (Ann.snd (Ann.snd (Ann.snd an34))) rt34 (fun _ _ => none) rt34
noncomputable def xb34_3 (n : Nat × Nat) : Nat → St → Option R34 := fun j s => bif Nat.beq j 0 then normC [5] s (kq34_1 n) else (fun _ _ => none) j s
noncomputable def F34_4 (n : Nat × Nat) : (St → Option R34) → St → Option R34 := fun K s => run (E34 n) (cA (cA (cB (cA (cB (cB c34)))))) (Ann.fst (Ann.fst (Ann.snd (Ann.fst (Ann.snd (Ann.snd an34)))))) (fun s => normC [1, 5, 12, 13, 14, 27, 28, 29, 30, 36, 37, 38, 39] s K) (xb34_3 n) rt34 s
noncomputable def kq34_7 (n : Nat × Nat) (m1 : Nat) : St → Option R34 := run (E34 n) (cB (cB (cB (cA (cA (cB (cA (cB (cB c34))))))))) (Ann.snd (Ann.snd (Ann.snd (Ann.fst (Ann.fst (Ann.snd (Ann.fst (Ann.snd (Ann.snd an34))))))))) (fun s => normC [1, 5, 12, 13, 14, 27, 28, 29, 30, 36, 37, 38, 39] s (loopN (F34_4 n) m1)) (xb34_3 n) rt34
noncomputable def L34_1 (n : Nat × Nat) (m : Nat) (choice1 : Int) (v5 : Bool) (v12 : List Int) (v13 : Int) (v14 : Int) : Option R34 := loopN (F34_4 n) m { tm := [uu, .c (.int .u64 choice1), uu, uu, uu, .c (.bool v5), uu, uu, uu, uu, uu, uu, .c (.sl (.int .u64) v12 false), .c (.int .i64 v13), .c (.int .i64 v14), uu, uu, uu, uu, uu, uu, uu, uu, uu, uu, uu, uu, uu, uu, uu, uu, uu, uu, uu, uu, uu, uu, uu, uu, uu, uu, uu, uu], hp := emp }
noncomputable def L34_2 (n : Nat × Nat) (m1 : Nat) (choice1 : Int) (v5 : Bool) (v12 : List Int) (v13 : Int) (v14 : Int) : Option R34 := loopN (fun _ => (kq34_7 n m1)) n.2 { tm := [uu, .c (.int .u64 choice1), uu, uu, uu, .c (.bool v5), uu, uu, uu, uu, uu, uu, .c (.sl (.int .u64) v12 false), .c (.int .i64 v13), .c (.int .i64 v14), uu, uu, uu, uu, uu, uu, uu, uu, uu, uu, uu, uu, uu, uu, uu, uu, uu, uu, uu, uu, uu, uu, uu, uu, uu, uu, uu, uu], hp := emp }
theorem L34_1_eq (n : Nat × Nat) (m1 : Nat) (choice1 : Int) (v5 : Bool) (v12 : List Int) (v13 : Int) (v14 : Int) : L34_1 n (m1 + 1) choice1 v5 v12 v13 v14 =
 (bif decide (v14 < v13) then (idx v12 v14).bind fun x1' =>
 (bif decide (v14 < 0) then none
 else ((bif (((wr .u64 (BitVec.ofInt (IntKind.bits .u64) (Int.fdiv choice1 (2 ^ (min (Int.toNat v14) (IntKind.bits .u64)))) &&& BitVec.ofInt (IntKind.bits .u64) 1).toNat) == 1) == true) then some ((wr .u64 (BitVec.ofInt (IntKind.bits .u64) x1' &&& BitVec.ofInt (IntKind.bits .u64) choice1).toNat) != 0)
 else some false)).bind fun b2' =>
 (bif b2' then some 13
 else ((bif ((!((wr .u64 (BitVec.ofInt (IntKind.bits .u64) (Int.fdiv choice1 (2 ^ (min (Int.toNat v14) (IntKind.bits .u64)))) &&& BitVec.ofInt (IntKind.bits .u64) 1).toNat) == 1)) == true) then some ((wr .u64 (BitVec.ofInt (IntKind.bits .u64) x1' &&& BitVec.ofInt (IntKind.bits .u64) choice1).toNat) == 0)
 else some false)).bind fun b3' =>
 (bif b3' then L34_2 n m1 choice1 true v12 v13 v14
 else L34_2 n m1 choice1 v5 v12 v13 v14)))
 else (bif v5 then some 21
 else some 0)) := by kernel_rfl
theorem L34_2_raw (n : Nat × Nat) (m1 : Nat) (choice1 : Int) (v5 : Bool) (v12 : List Int) (v13 : Int) (v14 : Int) : (kq34_7 n m1) { tm := [uu, .c (.int .u64 choice1), uu, uu, uu, .c (.bool v5), uu, uu, uu, uu, uu, uu, .c (.sl (.int .u64) v12 false), .c (.int .i64 v13), .c (.int .i64 v14), uu, uu, uu, uu, uu, uu, uu, uu, uu, uu, uu, uu, uu, uu, uu, uu, uu, uu, uu, uu, uu, uu, uu, uu, uu, uu, uu, uu], hp := emp } =
    L34_1 n m1 choice1 v5 v12 v13 (wr .i64 (v14 + 1)) := by kernel_rfl
noncomputable def S34 (n : Nat × Nat) (w0 : Int × Int × Int × Int × Int × Int × Int × Int) (choice1 : Int) : Option R34 := run (E34 n) c34 an34 rt34 (fun _ _ => none) rt34 { tm := [.agg [.int .i64 w0.1, .int .u64 w0.2.1, .int .u64 w0.2.2.1, .int .u64 w0.2.2.2.1, .int .u64 w0.2.2.2.2.1, .int .u64 w0.2.2.2.2.2.1, .int .u64 w0.2.2.2.2.2.2.1, .int .u64 w0.2.2.2.2.2.2.2], .c (.int .u64 choice1), uu, uu, uu, uu, uu, uu, uu, uu, uu, uu, uu, uu, uu, uu, uu, uu, uu, uu, uu, uu, uu, uu, uu, uu, uu, uu, uu, uu, uu, uu, uu, uu, uu, uu, uu, uu, uu, uu, uu, uu, uu], hp := emp }
theorem S34_eq (n : Nat × Nat) (w0 : Int × Int × Int × Int × Int × Int × Int × Int) (choice1 : Int) : S34 n w0 choice1 =
 (bif bounds none (some w0.1) none 7 then L34_1 n n.1 choice1 false ([w0.2.1, w0.2.2.1, w0.2.2.2.1, w0.2.2.2.2.1, w0.2.2.2.2.2.1, w0.2.2.2.2.2.2.1, w0.2.2.2.2.2.2.2].take (Int.toNat w0.1)) (([w0.2.1, w0.2.2.1, w0.2.2.2.1, w0.2.2.2.2.1, w0.2.2.2.2.2.1, w0.2.2.2.2.2.2.1, w0.2.2.2.2.2.2.2].take (Int.toNat w0.1)).length : Int) 0
 else none) := by kernel_rfl
theorem S34_run (n : Nat × Nat) (xs : pksDen pk34) : S34 n xs.1 xs.2.1 = runG (E34 n) noScope c34 an34 (rtG rk34) (fun _ _ => none) (rtG rk34) (st0 pk34 xs Tryd.f34.ntmps) := by kernel_rfl
noncomputable def P34 (n : Nat × Nat) := phiOf pk34 rk34 (fun xs => S34 n xs.1 xs.2.1)
theorem call34 : CallOK Tryd.prog 34 := callOK_of Tryd.func34 (by kernel_rfl) (by kernel_rfl)
theorem env34 (n : Nat × Nat) : EnvOK Tryd.prog (E34 n) := envOK0 noPhi_ok rfl rfl
theorem par34 (n : Nat × Nat) : EnvPar (E34 n) := envPar0 noPhi_par rfl
theorem FC34 (n : Nat × Nat) : FCs Tryd.prog 34 (P34 n) := phiOf_FCs fun xs r h vs hv => FC.of_runG tabOK eqsOK (env34 n) (par34 n) mixed (fun _ p _ => noScope_ok p.1 p.2) Tryd.func34 (c := c34) (an := an34) (pks := pk34) (rks := rk34) (by kernel_rfl) (by kernel_rfl) hv ((S34_run n xs).symm.trans h)
abbrev R35 := List Int
noncomputable def c35 : Code := bodyOf Tryd.f35
noncomputable def an35 : Ann := (.s .l (.s .l (.s (.j [3] (.j [0, 3] (.s (.s .l (.j [0, 3] .l .l)) (.s (.j [0, 3] .l .l) .l)) .l) .l) .l)))
def pk35 : List PK := [.c (.int .u64)]
def rk35 : List RK := [.own (.int .i64) 2]
noncomputable def rt35 (st : St) : Option R35 := rtG rk35 st
noncomputable def E35 (n : Nat × Nat) : Env := { T := tab, phi := (consPhi 41 (fun _ => true) (P41 n) noPhi), eff := fun _ => false, fuel := n.1, hold := n.2 }
noncomputable def kq35_1 (n : Nat × Nat) : St → Option R35 := run (E35 n) (cB (cB (cB c35))) (Ann.snd (Ann.snd (Ann.snd an35))) rt35 (fun _ _ => none) rt35
noncomputable def xb35_3 (n : Nat × Nat) : Nat → St → Option R35 := fun j s => bif Nat.beq j 0 then normC [3] s (kq35_1 n) else (fun _ _ => none) j s
noncomputable def F35_4 (n : Nat × Nat) : (St → Option R35) → St → Option R35 := fun K s => run (E35 n) (cA (cA (cA (cB (cB c35))))) (Ann.fst (Ann.fst (Ann.fst (Ann.snd (Ann.snd an35))))) (fun s => normC [0, 3] s K) (xb35_3 n) rt35 s
noncomputable def L35_1 (n : Nat × Nat) (m : Nat) (v0 : Int) (out3 : List Int) : Option R35 := loopN (F35_4 n) m { tm := [.c (.int .u64 v0), uu, uu, .own 3 none false, uu, uu, uu, uu, uu, uu, uu, uu, uu, uu, uu, uu], hp := (upd emp 3 (.arr (.int .i64) out3 false)) }
theorem L35_1_eq (n : Nat × Nat) (m1 : Nat) (v0 : Int) (out3 : List Int) : L35_1 n (m1 + 1) v0 out3 =
 (bif (v0 != 0) then (S41 n v0).bind fun r1' =>
 (bif decide (out3.length + [r1'].length ≤ lim) then L35_1 n m1 (wr .u64 (BitVec.ofInt (IntKind.bits .u64) v0 &&& BitVec.ofInt (IntKind.bits .u64) (wr .u64 (v0 - 1))).toNat) (out3 ++ [r1'])
 else none)
 else some out3) := by kernel_rfl
noncomputable def S35 (n : Nat × Nat) (v0 : Int) : Option R35 := run (E35 n) c35 an35 rt35 (fun _ _ => none) rt35 { tm := [.c (.int .u64 v0), uu, uu, uu, uu, uu, uu, uu, uu, uu, uu, uu, uu, uu, uu, uu], hp := emp }
theorem S35_eq (n : Nat × Nat) (v0 : Int) : S35 n v0 =
    L35_1 n n.1 v0 [] := by kernel_rfl
theorem S35_run (n : Nat × Nat) (xs : pksDen pk35) : S35 n xs.1 = runG (E35 n) noScope c35 an35 (rtG rk35) (fun _ _ => none) (rtG rk35) (st0 pk35 xs Tryd.f35.ntmps) := by kernel_rfl
noncomputable def P35 (n : Nat × Nat) := phiOf pk35 rk35 (fun xs => S35 n xs.1)
theorem call35 : CallOK Tryd.prog 35 := callOK_of Tryd.func35 (by kernel_rfl) (by kernel_rfl)
theorem env35 (n : Nat × Nat) : EnvOK Tryd.prog (E35 n) := envOK0 (consPhi_ok (FC41 n) call41 noPhi_ok) rfl rfl
theorem par35 (n : Nat × Nat) : EnvPar (E35 n) := envPar0 (consPhi_par phiOf_Par1 noPhi_par) rfl
theorem FC35 (n : Nat × Nat) : FCs Tryd.prog 35 (P35 n) := phiOf_FCs fun xs r h vs hv => FC.of_runG tabOK eqsOK (env35 n) (par35 n) mixed (fun _ p _ => noScope_ok p.1 p.2) Tryd.func35 (c := c35) (an := an35) (pks := pk35) (rks := rk35) (by kernel_rfl) (by kernel_rfl) hv ((S35_run n xs).symm.trans h)
end Go.Proofs.YtkfkbebinhkdlaaDoor
/-
  slices.SortFunc at a list of at most one element: it stays as it is.
-/
set_option linter.unusedVariables false
set_option linter.unusedSimpArgs false
set_option maxRecDepth 100000
namespace Go.Proofs.YtkfkbebinhkdlaaDoor
open Go.RowKit
theorem ins_in (a : Option Addr) (L cap : Nat) (w : World) (f : Value) (hL : L ≤ 1) :
    Calls Tryd.prog 91 #[.slice a L cap, .int .i64 0, .int .i64 L, f] w fun e W' => e = .returned (.tuple #[]) ∧ w = W' := by
  go_enter Tryd.func91, Tryd.ntmps91
  go_wp2
  refine wp_loop_rounds 1 ?_
  rw [rounds_succ]
  go_wp2
  go_end0
  exact ⟨rfl, rfl⟩
theorem pdq_in (a : Option Addr) (L cap : Nat) (w : World) (f : Value) (k : Int) (hL : L ≤ 1) :
    Calls Tryd.prog 67 #[.slice a L cap, .int .i64 0, .int .i64 L, .int .i64 k, f] w fun e W' => e = .returned (.tuple #[]) ∧ w = W' := by
  go_enter Tryd.func67, Tryd.ntmps67
  go_wp2
  refine wp_loop_rounds 1 ?_
  rw [rounds_succ]
  go_wp2_with (go_at_call 91; refine (ins_in a L cap _ f hL).mono ?_; rintro e w1 ⟨rfl, rfl⟩)
  exact bodyPost_ret (results_none rfl _ _ _) rfl ⟨rfl, rfl⟩
theorem len0_in (w : World) : Calls Tryd.prog 68 #[.int .u64 0] w fun e W' => ∃ k : Int, e = .returned (.int .i64 k) ∧ w = W' := by
  have h : Calls Tryd.prog 100 #[.int .u64 0] w fun e W' => ∃ k : Int, e = .returned (.int .i64 k) ∧ w = W' := by
    go_enter Tryd.func100, Tryd.ntmps100
    go_wp2
    go_ret
    exact ⟨_, rfl, rfl⟩
  go_enter Tryd.func68, Tryd.ntmps68
  go_wp2_with (go_at_call 100; refine h.mono ?_; rintro e w1 ⟨k, rfl, rfl⟩)
  go_ret
  exact ⟨_, rfl, rfl⟩
theorem len1_in (w : World) : Calls Tryd.prog 68 #[.int .u64 1] w fun e W' => ∃ k : Int, e = .returned (.int .i64 k) ∧ w = W' := by
  have h : Calls Tryd.prog 100 #[.int .u64 1] w fun e W' => ∃ k : Int, e = .returned (.int .i64 k) ∧ w = W' := by
    go_enter Tryd.func100, Tryd.ntmps100
    go_wp2
    go_ret
    exact ⟨_, rfl, rfl⟩
  go_enter Tryd.func68, Tryd.ntmps68
  go_wp2_with (go_at_call 100; refine h.mono ?_; rintro e w1 ⟨k, rfl, rfl⟩)
  go_ret
  exact ⟨_, rfl, rfl⟩
theorem sort_in (a : Option Addr) (L cap : Nat) (w : World) (f : Value) (hL : L ≤ 1) :
    Calls Tryd.prog 36 #[.slice a L cap, f] w fun e W' => e = .returned (.tuple #[]) ∧ w = W' := by
  have key : L = 0 ∨ L = 1 := by omega
  rcases key with rfl | rfl
  · have hp := fun k => pdq_in a 0 cap w f k (by omega)
    go_enter Tryd.func36, Tryd.ntmps36
    go_wp2_with (first | (go_at_call 68; refine (len0_in _).mono ?_; rintro e w1 ⟨k, rfl, rfl⟩) | (go_at_call 67; refine (hp _).mono ?_; rintro e w1 ⟨rfl, rfl⟩))
    go_end0
    exact ⟨rfl, rfl⟩
  · have hp := fun k => pdq_in a 1 cap w f k (by omega)
    go_enter Tryd.func36, Tryd.ntmps36
    go_wp2_with (first | (go_at_call 68; refine (len1_in _).mono ?_; rintro e w1 ⟨k, rfl, rfl⟩) | (go_at_call 67; refine (hp _).mono ?_; rintro e w1 ⟨rfl, rfl⟩))
    go_end0
    exact ⟨rfl, rfl⟩
open Go.Vi
def HF36 (l : List (List Int)) : Option Unit := bif Nat.ble l.length 1 then some () else none
theorem HC36 (xs : pksDen [.c (.sl (.sl (.int .i64))), .f 37 []]) (r : rksDen []) (h : HF36 xs.1 = some r) (vs : List V) (hv : pksArg [.c (.sl (.sl (.int .i64))), .f 37 []] vs = some xs) :
    FC Tryd.prog 36 vs (rets [] r) := by
  obtain ⟨l, y, ⟨⟩⟩ := xs
  unfold HF36 at h
  obtain ⟨hl, h⟩ := cond_some h rfl
  have hl : l.length ≤ 1 := Nat.le_of_ble_eq_true hl
  intro w A0 args hA hargs hgl
  have hv2 := pksArg_VR _ _ _ _ hv hargs
  match args, hv2 with
  | [u1, u2], ⟨g0, _, _⟩ =>
    have g0 : CR w A0 (.sl (.sl (.int .i64)) l false) u1 := g0
    obtain ⟨a, cap, rfl, _⟩ := g0
    refine (sort_in a l.length cap w u2 hl).mono ?_
    rintro e W' ⟨rfl, rfl⟩
    exact ⟨⟨Nat.le_refl _, rfl, rfl, rfl, fun _ _ => rfl⟩, [], [], rfl, trivial⟩
end Go.Proofs.YtkfkbebinhkdlaaDoor
set_option linter.unusedVariables false
set_option linter.unusedSimpArgs false
set_option maxRecDepth 100000
namespace Go.Proofs.YtkfkbebinhkdlaaDoor
open Go.Vi
abbrev R36c37 := Unit
def pk36c37 : List PK := [.c (.sl (.sl (.int .i64))), .f 37 []]
def rk36c37 : List RK := []
noncomputable def S36c37 (n : Nat × Nat) (x0 : List (List Int)) : Option R36c37 := HF36 x0
noncomputable def P36c37 (n : Nat × Nat) := phiOf pk36c37 rk36c37 (fun xs => S36c37 n xs.1)
theorem call36 : CallOK Tryd.prog 36 := callOK_of Tryd.func36 (by kernel_rfl) (by kernel_rfl)
theorem FC36c37 (n : Nat × Nat) : FCs Tryd.prog 36 (P36c37 n) := phiOf_FCs fun xs r h vs hv => HC36 xs r h vs hv
abbrev R11 := List (List Int) × Int
noncomputable def c11 : Code := bodyOf Tryd.f11
noncomputable def an11 : Ann := (.s .l (.s .l (.s (.s .l (.j [4] .l .l)) (.s .l (.s (.s .l (.j [6] (.j [4, 6, 18, 19] (.s .l (.s (.j [4, 6, 18, 19] .l .l) (.j [] (.j [4, 6, 18, 19] (.s .l (.s .l (.j [4, 6, 18, 19] .l .l))) .l) .l))) .l) .l)) .l)))))
def pk11 : List PK := [.c (.pair (.int .i64) (.sl (.pair (.int .i64) (.int .i64))))]
def rk11 : List RK := [.own (.sl (.int .i64)) 2, .c (.int .i64) 3]
noncomputable def rt11 (st : St) : Option R11 := rtG rk11 st
noncomputable def E11 (n : Nat × Nat) : Env := { T := tab, phi := (consPhi 33 (fun _ => true) (P33 n) (consPhi 34 (fun _ => true) (P34 n) (consPhi 35 (fun _ => true) (P35 n) (consPhi 36 (isFns [none, some 37]) (P36c37 n) noPhi)))), eff := fun _ => false, fuel := n.1, hold := n.2 }
noncomputable def kq11_3 (n : Nat × Nat) : St → Option R11 := run (E11 n) (cB (cB (cB (cB (cB c11))))) (Ann.snd (Ann.snd (Ann.snd (Ann.snd (Ann.snd an11))))) rt11 (fun _ _ => none) rt11
noncomputable def xb11_5 (n : Nat × Nat) : Nat → St → Option R11 := fun j s => bif Nat.beq j 0 then normC [6] s (kq11_3 n) else (fun _ _ => none) j s
noncomputable def F11_6 (n : Nat × Nat) : (St → Option R11) → St → Option R11 := fun K s => run (E11 n) (cA (cA (cB (cA (cB (cB (cB (cB c11)))))))) (Ann.fst (Ann.fst (Ann.snd (Ann.fst (Ann.snd (Ann.snd (Ann.snd (Ann.snd an11)))))))) (fun s => normC [4, 6, 18, 19] s K) (xb11_5 n) rt11 s
noncomputable def kq11_9 (n : Nat × Nat) (m1 : Nat) : St → Option R11 := run (E11 n) (cB (cB (cB (cA (cA (cB (cA (cB (cB (cB (cB c11))))))))))) (Ann.snd (Ann.snd (Ann.snd (Ann.fst (Ann.fst (Ann.snd (Ann.fst (Ann.snd (Ann.snd (Ann.snd (Ann.snd an11))))))))))) (fun s => normC [4, 6, 18, 19] s (loopN (F11_6 n) m1)) (xb11_5 n) rt11
noncomputable def L11_1 (n : Nat × Nat) (m : Nat) (v18 : Int) (v19 : Int) (w4_0 : Int) (w4_1 : Int) (w4_2 : Int) (w4_3 : Int) (w4_4 : Int) (w4_5 : Int) (w4_6 : Int) (w4_7 : Int) (out6 : List (List Int)) : Option R11 := loopN (F11_6 n) m { tm := [uu, uu, uu, uu, .ptr 4 0, uu, .own 6 none false, uu, uu, uu, uu, uu, uu, uu, uu, uu, uu, uu, .c (.int .u64 v18), .c (.int .u64 v19), uu, uu, uu, uu, uu, uu, uu, uu, uu, uu, uu, uu, uu, uu, uu], hp := (upd (upd emp 6 (.arr (.sl (.int .i64)) out6 false)) 4 (.box [.int .i64 w4_0, .int .u64 w4_1, .int .u64 w4_2, .int .u64 w4_3, .int .u64 w4_4, .int .u64 w4_5, .int .u64 w4_6, .int .u64 w4_7])) }
noncomputable def L11_2 (n : Nat × Nat) (m1 : Nat) (v18 : Int) (v19 : Int) (w4_0 : Int) (w4_1 : Int) (w4_2 : Int) (w4_3 : Int) (w4_4 : Int) (w4_5 : Int) (w4_6 : Int) (w4_7 : Int) (out6 : List (List Int)) : Option R11 := loopN (fun _ => (kq11_9 n m1)) n.2 { tm := [uu, uu, uu, uu, .ptr 4 0, uu, .own 6 none false, uu, uu, uu, uu, uu, uu, uu, uu, uu, uu, uu, .c (.int .u64 v18), .c (.int .u64 v19), uu, uu, uu, uu, uu, uu, uu, uu, uu, uu, uu, uu, uu, uu, uu], hp := (upd (upd emp 6 (.arr (.sl (.int .i64)) out6 false)) 4 (.box [.int .i64 w4_0, .int .u64 w4_1, .int .u64 w4_2, .int .u64 w4_3, .int .u64 w4_4, .int .u64 w4_5, .int .u64 w4_6, .int .u64 w4_7])) }
theorem L11_1_eq (n : Nat × Nat) (m1 : Nat) (v18 : Int) (v19 : Int) (w4_0 : Int) (w4_1 : Int) (w4_2 : Int) (w4_3 : Int) (w4_4 : Int) (w4_5 : Int) (w4_6 : Int) (w4_7 : Int) (out6 : List (List Int)) : L11_1 n (m1 + 1) v18 v19 w4_0 w4_1 w4_2 w4_3 w4_4 w4_5 w4_6 w4_7 out6 =
 (bif decide (v19 < v18) then (S34 n (w4_0, w4_1, w4_2, w4_3, w4_4, w4_5, w4_6, w4_7) v19).bind fun r2' =>
 (bif (r2' == 0) then (S35 n v19).bind fun r3' =>
 (bif decide (out6.length + [r3'].length ≤ lim) then L11_2 n m1 v18 v19 w4_0 w4_1 w4_2 w4_3 w4_4 w4_5 w4_6 w4_7 (out6 ++ [r3'])
 else none)
 else L11_2 n m1 v18 v19 w4_0 w4_1 w4_2 w4_3 w4_4 w4_5 w4_6 w4_7 out6)
 else (S36c37 n out6).bind fun r4' =>
 some (out6, 0)) := by kernel_rfl
theorem L11_2_raw (n : Nat × Nat) (m1 : Nat) (v18 : Int) (v19 : Int) (w4_0 : Int) (w4_1 : Int) (w4_2 : Int) (w4_3 : Int) (w4_4 : Int) (w4_5 : Int) (w4_6 : Int) (w4_7 : Int) (out6 : List (List Int)) : (kq11_9 n m1) { tm := [uu, uu, uu, uu, .ptr 4 0, uu, .own 6 none false, uu, uu, uu, uu, uu, uu, uu, uu, uu, uu, uu, .c (.int .u64 v18), .c (.int .u64 v19), uu, uu, uu, uu, uu, uu, uu, uu, uu, uu, uu, uu, uu, uu, uu], hp := (upd (upd emp 6 (.arr (.sl (.int .i64)) out6 false)) 4 (.box [.int .i64 w4_0, .int .u64 w4_1, .int .u64 w4_2, .int .u64 w4_3, .int .u64 w4_4, .int .u64 w4_5, .int .u64 w4_6, .int .u64 w4_7])) } =
    L11_1 n m1 v18 (wr .u64 (v19 + 1)) w4_0 w4_1 w4_2 w4_3 w4_4 w4_5 w4_6 w4_7 out6 := by kernel_rfl
noncomputable def S11 (n : Nat × Nat) (b0 : Int × List (Int × Int)) : Option R11 := run (E11 n) c11 an11 rt11 (fun _ _ => none) rt11 { tm := [.agg [.int .i64 b0.1, .sl (.pair (.int .i64) (.int .i64)) b0.2 false], uu, uu, uu, uu, uu, uu, uu, uu, uu, uu, uu, uu, uu, uu, uu, uu, uu, uu, uu, uu, uu, uu, uu, uu, uu, uu, uu, uu, uu, uu, uu, uu, uu, uu], hp := emp }
theorem S11_eq (n : Nat × Nat) (b0 : Int × List (Int × Int)) : S11 n b0 =
 (S33 n b0).bind fun r1' =>
 (bif (r1'.2 != 0) then some ([], r1'.2)
 else (bif decide (r1'.1.1 < 0) then none
 else L11_1 n n.1 (wr .u64 (1 * 2 ^ (min (Int.toNat r1'.1.1) (IntKind.bits .u64)))) 0 r1'.1.1 r1'.1.2.1 r1'.1.2.2.1 r1'.1.2.2.2.1 r1'.1.2.2.2.2.1 r1'.1.2.2.2.2.2.1 r1'.1.2.2.2.2.2.2.1 r1'.1.2.2.2.2.2.2.2 [])) := by kernel_rfl
theorem S11_run (n : Nat × Nat) (xs : pksDen pk11) : S11 n xs.1 = runG (E11 n) noScope c11 an11 (rtG rk11) (fun _ _ => none) (rtG rk11) (st0 pk11 xs Tryd.f11.ntmps) := by kernel_rfl
noncomputable def P11 (n : Nat × Nat) := phiOf pk11 rk11 (fun xs => S11 n xs.1)
theorem call11 : CallOK Tryd.prog 11 := callOK_of Tryd.func11 (by kernel_rfl) (by kernel_rfl)
theorem env11 (n : Nat × Nat) : EnvOK Tryd.prog (E11 n) := envOK0 (consPhi_ok (FC33 n) call33 (consPhi_ok (FC34 n) call34 (consPhi_ok (FC35 n) call35 (consPhi_ok (FC36c37 n) call36 noPhi_ok)))) rfl rfl
theorem par11 (n : Nat × Nat) : EnvPar (E11 n) := envPar0 (consPhi_par phiOf_Par1 (consPhi_par phiOf_Par1 (consPhi_par phiOf_Par1 (consPhi_par phiOf_Par1 noPhi_par)))) rfl
theorem FC11 (n : Nat × Nat) : FCs Tryd.prog 11 (P11 n) := phiOf_FCs fun xs r h vs hv => FC.of_runG tabOK eqsOK (env11 n) (par11 n) mixed (fun _ p _ => noScope_ok p.1 p.2) Tryd.func11 (c := c11) (an := an11) (pks := pk11) (rks := rk11) (by kernel_rfl) (by kernel_rfl) hv ((S11_run n xs).symm.trans h)
abbrev R44 := List Int × Int
noncomputable def c44 : Code := bodyOf Tryd.f44
noncomputable def an44 : Ann := (.s .l (.s .l (.s (.j [4] (.s .l (.j [4] .l (.s .l (.j [4] .l .l)))) .l) .l)))
def pk44 : List PK := [.c (.pair (.int .i64) (.sl (.pair (.int .i64) (.int .i64))))]
def rk44 : List RK := [.sl (.int .i64) 2, .c (.int .i64) 3]
noncomputable def rt44 (st : St) : Option R44 := rtG rk44 st
noncomputable def E44 (n : Nat × Nat) : Env := { T := tab, phi := (consPhi 11 (fun _ => true) (P11 n) noPhi), eff := fun g => Nat.beq g 11, fuel := n.1, hold := n.2 }
noncomputable def S44 (n : Nat × Nat) (b0 : Int × List (Int × Int)) : Option R44 := run (E44 n) c44 an44 rt44 (fun _ _ => none) rt44 { tm := [.agg [.int .i64 b0.1, .sl (.pair (.int .i64) (.int .i64)) b0.2 false], uu, uu, uu, uu, uu, uu, uu, uu, uu, uu, uu, uu, uu, uu, uu, uu, uu, uu, uu, uu, uu], hp := emp }
theorem S44_eq (n : Nat × Nat) (b0 : Int × List (Int × Int)) : S44 n b0 =
 (S11 n b0).bind fun r1' =>
 (bif (r1'.2 != 0) then some ([], r1'.2)
 else (bif ((r1'.1.length : Int) == 0) then some ([], 12)
 else (bif inB 0 r1'.1.length then (idx r1'.1 0).bind fun x2' =>
 some (x2', 0)
 else none))) := by kernel_rfl
theorem S44_run (n : Nat × Nat) (xs : pksDen pk44) : S44 n xs.1 = runG (E44 n) noScope c44 an44 (rtG rk44) (fun _ _ => none) (rtG rk44) (st0 pk44 xs Tryd.f44.ntmps) := by kernel_rfl
noncomputable def P44 (n : Nat × Nat) := phiOf pk44 rk44 (fun xs => S44 n xs.1)
theorem call44 : CallOK Tryd.prog 44 := callOK_of Tryd.func44 (by kernel_rfl) (by kernel_rfl)
theorem env44 (n : Nat × Nat) : EnvOK Tryd.prog (E44 n) := envOK0 (consPhi_ok (FC11 n) call11 noPhi_ok) rfl rfl
theorem par44 (n : Nat × Nat) : EnvPar (E44 n) := envPar0 (consPhi_par phiOf_Par1 noPhi_par) rfl
theorem FC44 (n : Nat × Nat) : FCs Tryd.prog 44 (P44 n) := phiOf_FCs fun xs r h vs hv => FC.of_runG tabOK eqsOK (env44 n) (par44 n) mixed (fun _ p _ => noScope_ok p.1 p.2) Tryd.func44 (c := c44) (an := an44) (pks := pk44) (rks := rk44) (by kernel_rfl) (by kernel_rfl) hv ((S44_run n xs).symm.trans h)
end Go.Proofs.YtkfkbebinhkdlaaDoor
