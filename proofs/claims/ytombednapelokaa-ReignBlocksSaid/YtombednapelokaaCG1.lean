/- The functions, step by step: written by program -/
import Derived.Test.YtombednapelokaaViS
import Derived.Test.YtombednapelokaaProg
import Derived.KernelRfl
import Derived.WalkKit
import Derived.Test.YtombednapelokaaDel
import Derived.Test.YtombednapelokaaGro
set_option linter.unusedVariables false
set_option linter.unusedSimpArgs false
set_option maxRecDepth 100000
namespace Go.Proofs.Ytombednapelokaa
open Go.Vi
variable (n : Nat × Nat)
abbrev LP := List (Int × Int)
abbrev uu : V := .undef
def tab : Tab := { sh := [(3,(.int .i64)),(4,.bool),(5,(.int .u8)),(22,(.sl (.pair (.int .i64) (.int .i64)))),(24,(.sl (.pair (.int .i64) (.int .i64)))),(26,(.int .i64)),(31,(.pair (.int .i64) (.int .i64))),(34,(.pair (.int .i64) (.int .i64))),(42,(.sl (.pair (.int .i64) (.int .i64)))),(45,(.sl (.pair (.int .i64) (.int .i64)))),(48,(.sl (.pair (.int .i64) (.pair (.int .i64) (.pair (.int .i64) (.int .i64)))))),(51,(.sl (.pair (.int .i64) (.pair (.int .i64) (.pair (.int .i64) (.int .i64)))))),(56,(.pair (.int .i64) (.pair (.int .i64) (.pair (.int .i64) (.int .i64))))),(58,(.pair (.int .i64) (.pair (.int .i64) (.pair (.int .i64) (.int .i64))))),(68,(.sl (.int .i64))),(73,(.pair (.int .u8) (.pair (.int .u8) (.pair (.int .u8) (.pair (.int .u8) (.pair (.int .u8) (.pair (.int .u8) (.pair (.int .u8) (.int .u8))))))))),(75,(.pair (.int .u8) (.pair (.pair (.int .u8) (.pair (.int .u8) (.pair (.int .u8) (.pair (.int .u8) (.pair (.int .u8) (.pair (.int .u8) (.pair (.int .u8) (.int .u8)))))))) (.pair (.int .u8) (.pair (.int .u8) (.pair (.int .u8) (.pair (.int .u8) (.pair (.int .u8) (.pair (.int .u8) (.pair (.int .u8) (.int .u8))))))))))),(79,(.pair (.int .i64) (.int .i64))),(105,(.pair (.int .i64) (.int .i64))),(120,(.sl (.sl (.int .i64)))),(124,(.int .u64)),(127,(.sl (.sl (.pair (.int .i64) (.int .i64))))),(129,(.sl (.sl (.pair (.int .i64) (.int .i64))))),(137,(.int .u32)),(140,(.int .u64))],flds := [(31,[(.int .i64),(.int .i64)]),(34,[(.int .i64),(.int .i64)]),(56,[(.int .i64),(.int .i64),(.pair (.int .i64) (.int .i64))]),(58,[(.int .i64),(.int .i64),(.pair (.int .i64) (.int .i64))]),(75,[(.int .u8),(.pair (.int .u8) (.pair (.int .u8) (.pair (.int .u8) (.pair (.int .u8) (.pair (.int .u8) (.pair (.int .u8) (.pair (.int .u8) (.int .u8)))))))),(.pair (.int .u8) (.pair (.int .u8) (.pair (.int .u8) (.pair (.int .u8) (.pair (.int .u8) (.pair (.int .u8) (.pair (.int .u8) (.int .u8))))))))]),(79,[(.int .i64),(.int .i64)]),(105,[(.int .i64),(.int .i64)])],arrs := [(73,(8,(.int .u8)))],maps := [(132,(.i64,(.pair (.int .i64) (.pair (.int .i64) (.pair (.int .i64) (.int .i64))))))],eqs := [(31,(.pair (.int .i64) (.int .i64))),(34,(.pair (.int .i64) (.int .i64))),(56,(.pair (.int .i64) (.pair (.int .i64) (.pair (.int .i64) (.int .i64)))))],idf := [59],del := [94],lits := [42,129] }
theorem id59 : IdC Try.prog 59 := ⟨callOK_of Try.func59 (by kernel_rfl) (by kernel_rfl),fun u w => by
  go_enter Try.func59,Try.ntmps59
  go_wp2
  go_ret
  exact ⟨rfl,rfl⟩⟩
theorem idOK : ∀ g ∈ tab.idf,IdC Try.prog g := by
  intro g hg
  simp only [tab,List.mem_cons,List.not_mem_nil,or_false] at hg
  subst hg
  exact id59
theorem delOK : ∀ g ∈ tab.del,DelC Try.prog g := by
  intro g hg
  simp only [tab,List.mem_cons,List.not_mem_nil,or_false] at hg
  subst hg
  exact del94
theorem tabOK : TabOK Try.prog tab := tabB_ok (by kernel_rfl) idOK delOK
theorem eqsOK : EqsOK Try.prog tab := eqsB_ok (by kernel_rfl)
theorem mixed : Try.prog.follows .mixedOrders = true := by kernel_rfl
abbrev R60 := LP
abbrev K60 := St → Option R60
noncomputable def c60 : Code := bodyOf Try.f60
noncomputable def an60 : Ann := (.s .l (.s .l (.s (.s .l (.j [3] (.j [0,3,4] (.s (.s .l (.j [0,3,4] .l .l)) (.s (.j [0,3,4] .l .l) .l)) .l) .l)) .l)))
def pk60 : List PK := [.c (.sl (.int .i64))]
def rk60 : List RK := [.own (.pair (.int .i64) (.int .i64)) 2]
noncomputable def rt60 (st : St) : Option R60 := rtG rk60 st
noncomputable def E60 : Env := { T := tab,phi := noPhi,eff := fun _ => false,fuel := n.1,hold := n.2 }
noncomputable def kq60_1 : K60 := run (E60 n) (cB (cB (cB c60))) an60.snd.snd.snd rt60 (fun _ _ => none) rt60
noncomputable def xb60_3 : Nat → K60 := fun j s => bif Nat.beq j 0 then normC [3] s (kq60_1 n) else (fun _ _ => none) j s
noncomputable def F60_4 : (K60) → K60 := fun K s => run (E60 n) (cA (cA (cB (cA (cB (cB c60)))))) an60.snd.snd.fst.snd.fst.fst (fun s => normC [0,3,4] s K) (xb60_3 n) rt60 s
noncomputable def L60_1 (m : Nat) (l0 : List Int) (i4 : Int) (out3 : LP) : Option R60 := loopN (F60_4 n) m { tm := [.c (.sl (.int .i64) l0 false),uu,uu,.own 3 none false,.c (.int .i64 i4),uu,uu,uu,uu,uu,uu,uu,uu,uu,uu,uu,uu,uu,uu,uu,uu,uu,uu,uu,uu,uu],hp := (upd emp 3 (.arr (.pair (.int .i64) (.int .i64)) out3 true)) }
theorem L60_1_eq (m1 : Nat) (l0 : List Int) (i4 : Int) (out3 : LP) : L60_1 n (m1 + 1) l0 i4 out3 =
    (bif decide (wr .i64 (i4 + 1) < (l0.length : Int)) then (idx l0 i4).bind fun x1' =>
      (idx l0 (wr .i64 (i4 + 1))).bind fun x2' =>
      (bif decide (out3.length + [(x1',x2')].length ≤ lim) then L60_1 n m1 l0 (wr .i64 (i4 + 2)) (out3 ++ [(x1',x2')])
      else none)
    else some out3) := by kernel_rfl
noncomputable def S60 (l0 : List Int) : Option R60 := run (E60 n) c60 an60 rt60 (fun _ _ => none) rt60 { tm := [.c (.sl (.int .i64) l0 false),uu,uu,uu,uu,uu,uu,uu,uu,uu,uu,uu,uu,uu,uu,uu,uu,uu,uu,uu,uu,uu,uu,uu,uu,uu],hp := emp }
theorem S60_eq (l0 : List Int) : S60 n l0 =
    L60_1 n n.1 l0 0 [] := by kernel_rfl
theorem S60_run (xs : pksDen pk60) : S60 n xs.1 = runG (E60 n) noScope c60 an60 (rtG rk60) (fun _ _ => none) (rtG rk60) (st0 pk60 xs Try.f60.ntmps) := by kernel_rfl
noncomputable def P60 := phiOf pk60 rk60 (fun xs => S60 n xs.1)
theorem call60 : CallOK Try.prog 60 := callOK_of Try.func60 (by kernel_rfl) (by kernel_rfl)
theorem env60 : EnvOK Try.prog (E60 n) := envOK0 noPhi_ok rfl rfl
theorem par60 : EnvPar (E60 n) := envPar0 noPhi_par rfl
theorem FC60 : FCs Try.prog 60 (P60 n) := phiOf_FCs fun xs r h vs hv => FC.of_runG tabOK eqsOK (env60 n) (par60 n) mixed (fun _ => noScope_ok) Try.func60 (c := c60) (an := an60) (pks := pk60) (rks := rk60) (by kernel_rfl) (by kernel_rfl) hv ((S60_run n xs).symm.trans h)
abbrev R56 := LP
noncomputable def c56 : Code := bodyOf Try.f56
noncomputable def an56 : Ann := .l
def pk56 : List PK := []
def rk56 : List RK := [.own (.pair (.int .i64) (.int .i64)) 0]
noncomputable def rt56 (st : St) : Option R56 := rtG rk56 st
noncomputable def E56 : Env := { T := tab,phi := (consPhi 60 (fun _ => true) (P60 n) noPhi),eff := fun _ => false,fuel := n.1,hold := n.2 }
noncomputable def S56 : Option R56 := run (E56 n) c56 an56 rt56 (fun _ _ => none) rt56 { tm := [uu,uu,uu],hp := emp }
theorem S56_eq : S56 n =
    (S60 n [5,1,1,3,4,2,2,2]).bind fun r1' =>
    some r1' := by kernel_rfl
theorem S56_run (xs : pksDen pk56) : S56 n = runG (E56 n) noScope c56 an56 (rtG rk56) (fun _ _ => none) (rtG rk56) (st0 pk56 xs Try.f56.ntmps) := by kernel_rfl
noncomputable def P56 := phiOf pk56 rk56 (fun xs => S56 n)
theorem call56 : CallOK Try.prog 56 := callOK_of Try.func56 (by kernel_rfl) (by kernel_rfl)
theorem env56 : EnvOK Try.prog (E56 n) := envOK0 (consPhi_ok (FC60 n) call60 noPhi_ok) rfl rfl
theorem par56 : EnvPar (E56 n) := envPar0 (consPhi_par phiOf_Par1 noPhi_par) rfl
theorem FC56 : FCs Try.prog 56 (P56 n) := phiOf_FCs fun xs r h vs hv => FC.of_runG tabOK eqsOK (env56 n) (par56 n) mixed (fun _ => noScope_ok) Try.func56 (c := c56) (an := an56) (pks := pk56) (rks := rk56) (by kernel_rfl) (by kernel_rfl) hv ((S56_run n xs).symm.trans h)
abbrev R24 := Int
abbrev K24 := St → Option R24
noncomputable def c24 : Code := bodyOf Try.f24
noncomputable def an24 : Ann := (.s .l (.s (.j [0,23,24,25,28,29,30,33,34,35] (.s .l (.j [0,23,24,25,28,29,30,33,34,35] .l (.s .l (.j [0,23,24,25,28,29,30,33,34,35] .l .l)))) .l) (.s (.s .l (.j [] (.j [13,14,15,23,24,25,28,29,30,33,34,35] (.s .l (.s (.j [13,14,15,23,24,25,28,29,30,33,34,35] .l .l) (.s (.j [13,14,15,23,24,25,28,29,30,33,34,35] (.s .l (.s .l (.j [13,14,15,23,24,25,28,29,30,33,34,35] .l .l))) .l) .l))) .l) .l)) .l)))
def pk24 : List PK := [.c (.sl (.pair (.int .i64) (.int .i64)))]
def rk24 : List RK := [.c (.int .i64) 2]
noncomputable def rt24 (st : St) : Option R24 := rtG rk24 st
noncomputable def E24 : Env := { T := tab,phi := noPhi,eff := fun _ => false,fuel := n.1,hold := n.2 }
noncomputable def kq24_6 : K24 := run (E24 n) (cB (cB (cB c24))) an24.snd.snd.snd rt24 (fun _ _ => none) rt24
noncomputable def xb24_8 : Nat → K24 := fun j s => bif Nat.beq j 1 then normC [] s (kq24_6 n) else (fun _ _ => none) j s
noncomputable def F24_9 : (K24) → K24 := fun K s => run (E24 n) (cA (cA (cB (cA (cB (cB c24)))))) an24.snd.snd.fst.snd.fst.fst (fun s => normC [13,14,15,23,24,25,28,29,30,33,34,35] s K) (xb24_8 n) rt24 s
noncomputable def L24_1 (m : Nat) (v13 : LP) (v14 : Int) (v15 : Int) : Option R24 := loopN (F24_9 n) m { tm := [uu,uu,uu,uu,uu,uu,uu,uu,uu,uu,uu,uu,uu,.c (.sl (.pair (.int .i64) (.int .i64)) v13 false),.c (.int .i64 v14),.c (.int .i64 v15),uu,uu,uu,uu,uu,uu,uu,uu,uu,uu,uu,uu,uu,uu,uu,uu,uu,uu,uu,uu,uu,uu],hp := emp }
theorem L24_1_eq (m1 : Nat) (v13 : LP) (v14 : Int) (v15 : Int) : L24_1 n (m1 + 1) v13 v14 v15 =
    (bif decide (v15 < v14) then (idx v13 v15).bind fun x1' =>
      ((bif (decide (x1'.1 < 0) == false) then some (decide (x1'.1 > 100))
        else some true)).bind fun b2' =>
      ((bif (b2' == false) then some (decide (x1'.2 < 1))
        else some true)).bind fun b3' =>
      ((bif (b3' == false) then some (decide (x1'.2 > 9))
        else some true)).bind fun b4' =>
      (bif b4' then some 1
      else L24_1 n m1 v13 v14 (wr .i64 (v15 + 1)))
    else some 0) := by kernel_rfl
noncomputable def S24 (l0 : LP) : Option R24 := run (E24 n) c24 an24 rt24 (fun _ _ => none) rt24 { tm := [.c (.sl (.pair (.int .i64) (.int .i64)) l0 false),uu,uu,uu,uu,uu,uu,uu,uu,uu,uu,uu,uu,uu,uu,uu,uu,uu,uu,uu,uu,uu,uu,uu,uu,uu,uu,uu,uu,uu,uu,uu,uu,uu,uu,uu,uu,uu],hp := emp }
theorem S24_eq (l0 : LP) : S24 n l0 =
    (bif ((l0.length : Int) == 0) then some 4
    else (bif decide ((l0.length : Int) > 8) then some 3
      else L24_1 n n.1 l0 (l0.length : Int) 0)) := by kernel_rfl
theorem S24_run (xs : pksDen pk24) : S24 n xs.1 = runG (E24 n) noScope c24 an24 (rtG rk24) (fun _ _ => none) (rtG rk24) (st0 pk24 xs Try.f24.ntmps) := by kernel_rfl
noncomputable def P24 := phiOf pk24 rk24 (fun xs => S24 n xs.1)
theorem call24 : CallOK Try.prog 24 := callOK_of Try.func24 (by kernel_rfl) (by kernel_rfl)
theorem env24 : EnvOK Try.prog (E24 n) := envOK0 noPhi_ok rfl rfl
theorem par24 : EnvPar (E24 n) := envPar0 noPhi_par rfl
theorem FC24 : FCs Try.prog 24 (P24 n) := phiOf_FCs fun xs r h vs hv => FC.of_runG tabOK eqsOK (env24 n) (par24 n) mixed (fun _ => noScope_ok) Try.func24 (c := c24) (an := an24) (pks := pk24) (rks := rk24) (by kernel_rfl) (by kernel_rfl) hv ((S24_run n xs).symm.trans h)
abbrev R105 := Int
abbrev K105 := St → Option R105
noncomputable def c105 : Code := bodyOf Try.f105
noncomputable def an105 : Ann := (.s .l (.s (.j [0] (.j [0,1] (.s (.s .l (.j [0,1] .l .l)) (.j [0,1] .l .l)) .l) .l) .l))
def pk105 : List PK := [.c (.int .i64),.c (.int .i64)]
def rk105 : List RK := [.c (.int .i64) 4]
noncomputable def rt105 (st : St) : Option R105 := rtG rk105 st
noncomputable def E105 : Env := { T := tab,phi := noPhi,eff := fun _ => false,fuel := n.1,hold := n.2 }
noncomputable def kq105_1 : K105 := run (E105 n) (cB (cB c105)) an105.snd.snd rt105 (fun _ _ => none) rt105
noncomputable def xb105_3 : Nat → K105 := fun j s => bif Nat.beq j 0 then normC [0] s (kq105_1 n) else (fun _ _ => none) j s
noncomputable def F105_4 : (K105) → K105 := fun K s => run (E105 n) (cA (cA (cA (cB c105)))) an105.snd.fst.fst.fst (fun s => normC [0,1] s K) (xb105_3 n) rt105 s
noncomputable def L105_1 (m : Nat) (a0 : Int) (b1 : Int) : Option R105 := loopN (F105_4 n) m { tm := [.c (.int .i64 a0),.c (.int .i64 b1),uu,uu,uu,uu,uu,uu,uu,uu,uu,uu],hp := emp }
theorem L105_1_eq (m1 : Nat) (a0 : Int) (b1 : Int) : L105_1 n (m1 + 1) a0 b1 =
    (bif (b1 != 0) then (bif b1 == 0 then none
      else L105_1 n m1 b1 (Int.tmod a0 b1))
    else some a0) := by kernel_rfl
noncomputable def S105 (a0 : Int) (b1 : Int) : Option R105 := run (E105 n) c105 an105 rt105 (fun _ _ => none) rt105 { tm := [.c (.int .i64 a0),.c (.int .i64 b1),uu,uu,uu,uu,uu,uu,uu,uu,uu,uu],hp := emp }
theorem S105_eq (a0 : Int) (b1 : Int) : S105 n a0 b1 =
    L105_1 n n.1 a0 b1 := by kernel_rfl
theorem S105_run (xs : pksDen pk105) : S105 n xs.1 xs.2.1 = runG (E105 n) noScope c105 an105 (rtG rk105) (fun _ _ => none) (rtG rk105) (st0 pk105 xs Try.f105.ntmps) := by kernel_rfl
noncomputable def P105 := phiOf pk105 rk105 (fun xs => S105 n xs.1 xs.2.1)
theorem call105 : CallOK Try.prog 105 := callOK_of Try.func105 (by kernel_rfl) (by kernel_rfl)
theorem env105 : EnvOK Try.prog (E105 n) := envOK0 noPhi_ok rfl rfl
theorem par105 : EnvPar (E105 n) := envPar0 noPhi_par rfl
theorem FC105 : FCs Try.prog 105 (P105 n) := phiOf_FCs fun xs r h vs hv => FC.of_runG tabOK eqsOK (env105 n) (par105 n) mixed (fun _ => noScope_ok) Try.func105 (c := c105) (an := an105) (pks := pk105) (rks := rk105) (by kernel_rfl) (by kernel_rfl) hv ((S105_run n xs).symm.trans h)
abbrev R98 := Int × Int
noncomputable def c98 : Code := bodyOf Try.f98
noncomputable def an98 : Ann := .l
def pk98 : List PK := [.c (.int .i64),.c (.int .i64)]
def rk98 : List RK := [.box (.pair (.int .i64) (.int .i64)) 4]
noncomputable def rt98 (st : St) : Option R98 := rtG rk98 st
noncomputable def E98 : Env := { T := tab,phi := (consPhi 105 (fun _ => true) (P105 n) noPhi),eff := fun _ => false,fuel := n.1,hold := n.2 }
noncomputable def S98 (num0 : Int) (den1 : Int) : Option R98 := run (E98 n) c98 an98 rt98 (fun _ _ => none) rt98 { tm := [.c (.int .i64 num0),.c (.int .i64 den1),uu,uu,uu,uu,uu,uu,uu,uu,uu,uu,uu,uu,uu,uu,uu,uu,uu],hp := emp }
theorem S98_eq (num0 : Int) (den1 : Int) : S98 n num0 den1 =
    (S105 n (if (wr .i64 (0 - num0)) > num0 then (wr .i64 (0 - num0)) else num0) den1).bind fun r1' =>
    (bif r1' == 0 then none
    else (bif r1' == 0 then none
      else some (wr .i64 (Int.tdiv num0 r1'),wr .i64 (Int.tdiv den1 r1')))) := by kernel_rfl
theorem S98_run (xs : pksDen pk98) : S98 n xs.1 xs.2.1 = runG (E98 n) noScope c98 an98 (rtG rk98) (fun _ _ => none) (rtG rk98) (st0 pk98 xs Try.f98.ntmps) := by kernel_rfl
noncomputable def P98 := phiOf pk98 rk98 (fun xs => S98 n xs.1 xs.2.1)
theorem call98 : CallOK Try.prog 98 := callOK_of Try.func98 (by kernel_rfl) (by kernel_rfl)
theorem env98 : EnvOK Try.prog (E98 n) := envOK0 (consPhi_ok (FC105 n) call105 noPhi_ok) rfl rfl
theorem par98 : EnvPar (E98 n) := envPar0 (consPhi_par phiOf_Par1 noPhi_par) rfl
theorem FC98 : FCs Try.prog 98 (P98 n) := phiOf_FCs fun xs r h vs hv => FC.of_runG tabOK eqsOK (env98 n) (par98 n) mixed (fun _ => noScope_ok) Try.func98 (c := c98) (an := an98) (pks := pk98) (rks := rk98) (by kernel_rfl) (by kernel_rfl) hv ((S98_run n xs).symm.trans h)
abbrev R70 := Int × Int
abbrev K70 := St → Option R70
noncomputable def c70 : Code := bodyOf Try.f70
noncomputable def an70 : Ann := (.s .l (.s .l (.s (.s .l (.j [2,3,4] (.j [2,3,4,7,8,9] (.s .l (.s (.j [2,3,4,7,8,9] .l .l) (.s (.j [2,3,4,7,8,9] .l .l) .l))) .l) .l)) .l)))
def pk70 : List PK := [.c (.sl (.pair (.int .i64) (.int .i64)))]
def rk70 : List RK := [.box (.pair (.int .i64) (.int .i64)) 2]
noncomputable def rt70 (st : St) : Option R70 := rtG rk70 st
noncomputable def E70 : Env := { T := tab,phi := (consPhi 98 (fun _ => true) (P98 n) noPhi),eff := fun _ => false,fuel := n.1,hold := n.2 }
noncomputable def kq70_1 : K70 := run (E70 n) (cB (cB (cB c70))) an70.snd.snd.snd rt70 (fun _ _ => none) rt70
noncomputable def xb70_3 : Nat → K70 := fun j s => bif Nat.beq j 0 then normC [2,3,4] s (kq70_1 n) else (fun _ _ => none) j s
noncomputable def F70_4 : (K70) → K70 := fun K s => run (E70 n) (cA (cA (cB (cA (cB (cB c70)))))) an70.snd.snd.fst.snd.fst.fst (fun s => normC [2,3,4,7,8,9] s K) (xb70_3 n) rt70 s
noncomputable def L70_1 (m : Nat) (sum3 : Int) (trust4 : Int) (v7 : LP) (v8 : Int) (v9 : Int) (v2_0 : Int) (v2_1 : Int) : Option R70 := loopN (F70_4 n) m { tm := [uu,uu,.ptr 2 0,.c (.int .i64 sum3),.c (.int .i64 trust4),uu,uu,.c (.sl (.pair (.int .i64) (.int .i64)) v7 false),.c (.int .i64 v8),.c (.int .i64 v9),uu,uu,uu,uu,uu,uu,uu,uu,uu,uu,uu,uu,uu,uu,uu,uu,uu,uu],hp := (upd emp 2 (.box [.int .i64 v2_0,.int .i64 v2_1])) }
theorem L70_1_eq (m1 : Nat) (sum3 : Int) (trust4 : Int) (v7 : LP) (v8 : Int) (v9 : Int) (v2_0 : Int) (v2_1 : Int) : L70_1 n (m1 + 1) sum3 trust4 v7 v8 v9 v2_0 v2_1 =
    (bif decide (v9 < v8) then (idx v7 v9).bind fun x1' =>
      L70_1 n m1 (wr .i64 (sum3 + (wr .i64 (x1'.1 * x1'.2)))) (wr .i64 (trust4 + x1'.2)) v7 v8 (wr .i64 (v9 + 1)) v2_0 v2_1
    else (S98 n sum3 trust4).bind fun r2' =>
      some r2') := by kernel_rfl
noncomputable def S70 (l0 : LP) : Option R70 := run (E70 n) c70 an70 rt70 (fun _ _ => none) rt70 { tm := [.c (.sl (.pair (.int .i64) (.int .i64)) l0 false),uu,uu,uu,uu,uu,uu,uu,uu,uu,uu,uu,uu,uu,uu,uu,uu,uu,uu,uu,uu,uu,uu,uu,uu,uu,uu,uu],hp := emp }
theorem S70_eq (l0 : LP) : S70 n l0 =
    L70_1 n n.1 0 0 l0 (l0.length : Int) 0 0 0 := by kernel_rfl
theorem S70_run (xs : pksDen pk70) : S70 n xs.1 = runG (E70 n) noScope c70 an70 (rtG rk70) (fun _ _ => none) (rtG rk70) (st0 pk70 xs Try.f70.ntmps) := by kernel_rfl
noncomputable def P70 := phiOf pk70 rk70 (fun xs => S70 n xs.1)
theorem call70 : CallOK Try.prog 70 := callOK_of Try.func70 (by kernel_rfl) (by kernel_rfl)
theorem env70 : EnvOK Try.prog (E70 n) := envOK0 (consPhi_ok (FC98 n) call98 noPhi_ok) rfl rfl
theorem par70 : EnvPar (E70 n) := envPar0 (consPhi_par phiOf_Par1 noPhi_par) rfl
theorem FC70 : FCs Try.prog 70 (P70 n) := phiOf_FCs fun xs r h vs hv => FC.of_runG tabOK eqsOK (env70 n) (par70 n) mixed (fun _ => noScope_ok) Try.func70 (c := c70) (an := an70) (pks := pk70) (rks := rk70) (by kernel_rfl) (by kernel_rfl) hv ((S70_run n xs).symm.trans h)
abbrev R88 := Int
noncomputable def c88 : Code := bodyOf Try.f88
noncomputable def an88 : Ann := .l
def pk88 : List PK := [.c (.pair (.int .i64) (.int .i64)),.c (.pair (.int .i64) (.int .i64))]
def rk88 : List RK := [.c (.int .i64) 4]
noncomputable def rt88 (st : St) : Option R88 := rtG rk88 st
noncomputable def E88 : Env := { T := tab,phi := noPhi,eff := fun _ => false,fuel := n.1,hold := n.2 }
noncomputable def S88 (a0 : Int × Int) (b1 : Int × Int) : Option R88 := run (E88 n) c88 an88 rt88 (fun _ _ => none) rt88 { tm := [.agg [.int .i64 a0.1,.int .i64 a0.2],.agg [.int .i64 b1.1,.int .i64 b1.2],uu,uu,uu,uu,uu,uu,uu,uu,uu,uu,uu,uu,uu,uu],hp := emp }
theorem S88_eq (a0 : Int × Int) (b1 : Int × Int) : S88 n a0 b1 =
    some (wr .i64 ((wr .i64 (a0.1 * b1.2)) - (wr .i64 (b1.1 * a0.2)))) := by kernel_rfl
theorem S88_run (xs : pksDen pk88) : S88 n xs.1 xs.2.1 = runG (E88 n) noScope c88 an88 (rtG rk88) (fun _ _ => none) (rtG rk88) (st0 pk88 xs Try.f88.ntmps) := by kernel_rfl
noncomputable def P88 := phiOf pk88 rk88 (fun xs => S88 n xs.1 xs.2.1)
theorem call88 : CallOK Try.prog 88 := callOK_of Try.func88 (by kernel_rfl) (by kernel_rfl)
theorem env88 : EnvOK Try.prog (E88 n) := envOK0 noPhi_ok rfl rfl
theorem par88 : EnvPar (E88 n) := envPar0 noPhi_par rfl
theorem FC88 : FCs Try.prog 88 (P88 n) := phiOf_FCs fun xs r h vs hv => FC.of_runG tabOK eqsOK (env88 n) (par88 n) mixed (fun _ => noScope_ok) Try.func88 (c := c88) (an := an88) (pks := pk88) (rks := rk88) (by kernel_rfl) (by kernel_rfl) hv ((S88_run n xs).symm.trans h)
abbrev R104io1 := (Unit) × (List (Int × Int × Int × Int)) × Unit
abbrev K104io1 := St → Option R104io1
noncomputable def c104io1 : Code := bodyOf Try.f104
noncomputable def an104io1 : Ann := (.s .l (.j [1000000000] (.j [0,2,3,1000000000] (.s (.s .l (.j [0,2,3,1000000000] .l .l)) (.s (.j [0,2,3,1000000000] .l .l) .l)) .l) .l))
def pk104io1 : List QK := [.oa (.pair (.int .i64) (.pair (.int .i64) (.pair (.int .i64) (.int .i64))))]
def rk104io1 : List RK := []
noncomputable def rt104io1 (st : St) : Option R104io1 := rtIO rk104io1 (pk104io1.flatMap QK.ods) st
noncomputable def E104io1 : Env := { T := tab,phi := noPhi,eff := fun _ => false,fuel := n.1,hold := n.2 }
noncomputable def xb104io1_2 (n : Nat × Nat) : Nat → K104io1 := fun j s => bif Nat.beq j 0 then normC [1000000000] s rt104io1 else (fun _ _ => none) j s
noncomputable def F104io1_3 : (K104io1) → K104io1 := fun K s => run (E104io1 n) (cA (cA (cB c104io1))) an104io1.snd.fst.fst (fun s => normC [0,2,3,1000000000] s K) (xb104io1_2 n) rt104io1 s
noncomputable def L104io1_1 (m : Nat) (i2 : Int) (j3 : Int) (v1000000000 : List (Int × Int × Int × Int)) : Option R104io1 := loopN (F104io1_3 n) m { tm := [.own 1000000000 none false,uu,.c (.int .i64 i2),.c (.int .i64 j3),uu,uu,uu,uu,uu,uu,uu,uu,uu,uu,uu,uu,uu,uu,uu,uu,uu,uu,uu,uu,uu,uu,uu,uu],hp := (upd emp 1000000000 (.arr (.pair (.int .i64) (.pair (.int .i64) (.pair (.int .i64) (.int .i64)))) v1000000000 false)) }
theorem L104io1_1_eq (m1 : Nat) (i2 : Int) (j3 : Int) (v1000000000 : List (Int × Int × Int × Int)) : L104io1_1 n (m1 + 1) i2 j3 v1000000000 =
    (bif decide (i2 < j3) then (bif inB j3 v1000000000.length then (idx v1000000000 j3).bind fun x1' =>
        (bif inB i2 v1000000000.length then (idx v1000000000 i2).bind fun x2' =>
          (bif inB i2 v1000000000.length then (idx v1000000000 i2).bind fun x3' =>
            (bif inB j3 (v1000000000.set (Int.toNat i2) x1').length then (idx (v1000000000.set (Int.toNat i2) x1') j3).bind fun x4' =>
              L104io1_1 n m1 (wr .i64 (i2 + 1)) (wr .i64 (j3 - 1)) ((v1000000000.set (Int.toNat i2) x1').set (Int.toNat j3) x2')
            else none)
          else none)
        else none)
      else none)
    else some ((),v1000000000,())) := by kernel_rfl
noncomputable def S104io1 (s0 : List (Int × Int × Int × Int)) : Option R104io1 := run (E104io1 n) c104io1 an104io1 rt104io1 (fun _ _ => none) rt104io1 { tm := [.own 1000000000 none false,uu,uu,uu,uu,uu,uu,uu,uu,uu,uu,uu,uu,uu,uu,uu,uu,uu,uu,uu,uu,uu,uu,uu,uu,uu,uu,uu],hp := (upd emp 1000000000 (.arr (.pair (.int .i64) (.pair (.int .i64) (.pair (.int .i64) (.int .i64)))) s0 false)) }
theorem S104io1_eq (s0 : List (Int × Int × Int × Int)) : S104io1 n s0 =
    L104io1_1 n n.1 0 (wr .i64 ((s0.length : Int) - 1)) s0 := by kernel_rfl
theorem S104io1_run (xs : qksDen pk104io1) : S104io1 n xs.1 = runG (E104io1 n) noScope c104io1 an104io1 (rtIO rk104io1 (pk104io1.flatMap QK.ods)) (fun _ _ => none) (rtIO rk104io1 (pk104io1.flatMap QK.ods)) (st1 pk104io1 xs Try.f104.ntmps) := by kernel_rfl
noncomputable def P104io1 := phioOf pk104io1 rk104io1 (pk104io1.flatMap QK.ods) (fun xs => S104io1 n xs.1)
theorem call104 : CallOK Try.prog 104 := callOK_of Try.func104 (by kernel_rfl) (by kernel_rfl)
theorem env104io1 : EnvOK Try.prog (E104io1 n) := envOK0 noPhi_ok rfl rfl
theorem par104io1 : EnvPar (E104io1 n) := envPar0 noPhi_par rfl
theorem FC104io1 : FCios Try.prog 104 (pk104io1.map QK.flag) (P104io1 n) := phioOf_FCios fun xs r h vs hv => FCio.of_runG tabOK eqsOK (env104io1 n) (par104io1 n) mixed (fun _ => noScope_ok) Try.func104 (c := c104io1) (an := an104io1) (qks := pk104io1) (rks := rk104io1) (by kernel_rfl) (by kernel_rfl) hv ((S104io1_run n xs).symm.trans h)
abbrev R79 := List (Int × Int × Int × Int)
abbrev K79 := St → Option R79
noncomputable def c79 : Code := bodyOf Try.f79
noncomputable def an79 : Ann := (.s .l (.s .l (.s (.s .l (.j [0,3] (.j [0,3,4,37,38,39,40,41,42] (.s (.s .l (.j [0,3,4,37,38,39,40,41,42] .l .l)) (.s (.j [0,3,4,37,38,39,40,41,42] (.s .l (.s (.s .l (.j [0,3,4,5,37,38,39,40,41,42] (.j [0,3,4,5,6,7,37,38,39,40,41,42] (.s (.s .l (.j [0,3,4,5,6,37,38,39,40,41,42] .l .l)) (.s (.j [0,3,4,5,6,37,38,39,40,41,42] .l .l) .l)) .l) .l)) .l)) .l) .l)) .l) .l)) (.s .l (.s (.s .l (.j [8] (.j [3,8,9] (.s (.s .l (.j [3,8,9] .l .l)) (.s (.j [3,8,9] .l .l) .l)) .l) .l)) .l)))))
def pk79 : List PK := [.c (.sl (.pair (.int .i64) (.int .i64)))]
def rk79 : List RK := [.own (.pair (.int .i64) (.pair (.int .i64) (.pair (.int .i64) (.int .i64)))) 2]
noncomputable def rt79 (st : St) : Option R79 := rtG rk79 st
noncomputable def io79 : List IoE := [⟨104,(fun _ => true),pk104io1.map QK.flag,P104io1 n⟩]
noncomputable def E79 : Env := { T := tab,phi := (consPhi 70 (fun _ => true) (P70 n) (consPhi 88 (fun _ => true) (P88 n) noPhi)),eff := fun _ => false,fuel := n.1,hold := n.2,phio := phioL (io79 n),iop := iopL (io79 n) }
noncomputable def kq79_1 : K79 := run (E79 n) (cB (cB (cB c79))) an79.snd.snd.snd rt79 (fun _ _ => none) rt79
noncomputable def xb79_3 : Nat → K79 := fun j s => bif Nat.beq j 0 then normC [0,3] s (kq79_1 n) else (fun _ _ => none) j s
noncomputable def F79_4 : (K79) → K79 := fun K s => run (E79 n) (cA (cA (cB (cA (cB (cB c79)))))) an79.snd.snd.fst.snd.fst.fst (fun s => normC [0,3,4,37,38,39,40,41,42] s K) (xb79_3 n) rt79 s
noncomputable def kq79_7 (m1 : Nat) : K79 := run (E79 n) (cB (cB (cA (cA (cB (cA (cB (cB c79)))))))) an79.snd.snd.fst.snd.fst.fst.snd.snd (fun s => normC [0,3,4,37,38,39,40,41,42] s (loopN (F79_4 n) m1)) (xb79_3 n) rt79
noncomputable def kc79_8 (m1 : Nat) : K79 := fun s => normC [0,3,4,37,38,39,40,41,42] s (kq79_7 n m1)
noncomputable def xb79_9 (m1 : Nat) : Nat → K79 := fun j s => bif Nat.beq j 1 then normC [0,3,4,37,38,39,40,41,42] s (kq79_7 n m1) else (xb79_3 n) j s
noncomputable def kq79_10 (m1 : Nat) : K79 := run (E79 n) (cB (cB (cA (cA (cB (cA (cA (cB (cA (cB (cB c79))))))))))) an79.snd.snd.fst.snd.fst.fst.snd.fst.fst.snd.snd (kc79_8 n m1) (xb79_9 n m1) rt79
noncomputable def xb79_12 (m1 : Nat) : Nat → K79 := fun j s => bif Nat.beq j 2 then normC [0,3,4,5,37,38,39,40,41,42] s (kq79_10 n m1) else (xb79_9 n m1) j s
noncomputable def F79_13 (m1 : Nat) : (K79) → K79 := fun K s => run (E79 n) (cA (cA (cB (cA (cB (cA (cA (cB (cA (cA (cB (cA (cB (cB c79)))))))))))))) an79.snd.snd.fst.snd.fst.fst.snd.fst.fst.snd.fst.snd.fst.fst (fun s => normC [0,3,4,5,6,7,37,38,39,40,41,42] s K) (xb79_12 n m1) rt79 s
noncomputable def kq79_14 : K79 := run (E79 n) (cB (cB (cB (cB (cB c79))))) an79.snd.snd.snd.snd.snd rt79 (fun _ _ => none) rt79
noncomputable def xb79_16 : Nat → K79 := fun j s => bif Nat.beq j 4 then normC [8] s (kq79_14 n) else (fun _ _ => none) j s
noncomputable def F79_17 : (K79) → K79 := fun K s => run (E79 n) (cA (cA (cB (cA (cB (cB (cB (cB c79)))))))) an79.snd.snd.snd.snd.fst.snd.fst.fst (fun s => normC [3,8,9] s K) (xb79_16 n) rt79 s
noncomputable def L79_1 (m : Nat) (l0 : LP) (v4 : Int) (known3 : List (Int × Int × Int × Int × Int)) : Option R79 := loopN (F79_4 n) m { tm := [.c (.sl (.pair (.int .i64) (.int .i64)) l0 false),uu,uu,.map 3,.c (.int .i64 v4),uu,uu,uu,uu,uu,uu,uu,uu,uu,uu,uu,uu,uu,uu,uu,uu,uu,uu,uu,uu,uu,uu,uu,uu,uu,uu,uu,uu,uu,uu,uu,uu,uu,uu,uu,uu,uu,uu,uu,uu,uu,uu,uu,uu,uu,uu,uu,uu,uu,uu,uu,uu,uu,uu,uu,uu,uu,uu,uu,uu,uu,uu,uu,uu,uu,uu,uu,uu,uu,uu,uu,uu,uu,uu,uu,uu,uu,uu,uu,uu,uu],hp := (upd emp 3 (.mp .i64 (.pair (.int .i64) (.pair (.int .i64) (.pair (.int .i64) (.int .i64)))) known3)) }
noncomputable def L79_2 (m1 : Nat) (m : Nat) (l0 : LP) (v4 : Int) (is7 : Bool) (known3 : List (Int × Int × Int × Int × Int)) (now5_0 : Int) (now5_1 : Int) (now5_2 : Int) (now5_3 : Int) (before6_0 : Int) (before6_1 : Int) (before6_2 : Int) (before6_3 : Int) : Option R79 := loopN (F79_13 n m1) m { tm := [.c (.sl (.pair (.int .i64) (.int .i64)) l0 false),uu,uu,.map 3,.c (.int .i64 v4),.ptr 5 0,.ptr 6 0,.c (.bool is7),uu,uu,uu,uu,uu,uu,uu,uu,uu,uu,uu,uu,uu,uu,uu,uu,uu,uu,uu,uu,uu,uu,uu,uu,uu,uu,uu,uu,uu,uu,uu,uu,uu,uu,uu,uu,uu,uu,uu,uu,uu,uu,uu,uu,uu,uu,uu,uu,uu,uu,uu,uu,uu,uu,uu,uu,uu,uu,uu,uu,uu,uu,uu,uu,uu,uu,uu,uu,uu,uu,uu,uu,uu,uu,uu,uu,uu,uu],hp := (upd (upd (upd emp 6 (.box [.int .i64 before6_0,.int .i64 before6_1,.int .i64 before6_2,.int .i64 before6_3])) 5 (.box [.int .i64 now5_0,.int .i64 now5_1,.int .i64 now5_2,.int .i64 now5_3])) 3 (.mp .i64 (.pair (.int .i64) (.pair (.int .i64) (.pair (.int .i64) (.int .i64)))) known3)) }
noncomputable def L79_3 (m : Nat) (v9 : Int) (known3 : List (Int × Int × Int × Int × Int)) (out8 : List (Int × Int × Int × Int)) : Option R79 := loopN (F79_17 n) m { tm := [uu,uu,uu,.map 3,uu,uu,uu,uu,.own 8 none false,.c (.int .i64 v9),uu,uu,uu,uu,uu,uu,uu,uu,uu,uu,uu,uu,uu,uu,uu,uu,uu,uu,uu,uu,uu,uu,uu,uu,uu,uu,uu,uu,uu,uu,uu,uu,uu,uu,uu,uu,uu,uu,uu,uu,uu,uu,uu,uu,uu,uu,uu,uu,uu,uu,uu,uu,uu,uu,uu,uu,uu,uu,uu,uu,uu,uu,uu,uu,uu,uu,uu,uu,uu,uu,uu,uu,uu,uu,uu,uu],hp := (upd (upd emp 8 (.arr (.pair (.int .i64) (.pair (.int .i64) (.pair (.int .i64) (.int .i64)))) out8 true)) 3 (.mp .i64 (.pair (.int .i64) (.pair (.int .i64) (.pair (.int .i64) (.int .i64)))) known3)) }
theorem L79_1_eq (m1 : Nat) (l0 : LP) (v4 : Int) (known3 : List (Int × Int × Int × Int × Int)) : L79_1 n (m1 + 1) l0 v4 known3 =
    (bif decide (v4 ≤ (l0.length : Int)) then (bif bounds (some (wr .i64 (v4 - 1))) (some v4) (some v4) l0.length then (S70 n ((l0.take (Int.toNat v4)).drop (Int.toNat (wr .i64 (v4 - 1))))).bind fun r1' =>
        L79_2 n m1 n.1 l0 v4 ((alook known3 (wr .i64 (v4 - 1))).isSome) known3 (wr .i64 (v4 - 1)) v4 r1'.1 r1'.2 (((alook known3 (wr .i64 (v4 - 1))).getD (0,0,0,0)).1) ((((alook known3 (wr .i64 (v4 - 1))).getD (0,0,0,0)).2).1) (((((alook known3 (wr .i64 (v4 - 1))).getD (0,0,0,0)).2).2).1) (((((alook known3 (wr .i64 (v4 - 1))).getD (0,0,0,0)).2).2).2)
      else none)
    else L79_3 n n.1 (l0.length : Int) known3 []) := by kernel_rfl
theorem L79_2_eq (m1 m2 : Nat) (l0 : LP) (v4 : Int) (is7 : Bool) (known3 : List (Int × Int × Int × Int × Int)) (now5_0 : Int) (now5_1 : Int) (now5_2 : Int) (now5_3 : Int) (before6_0 : Int) (before6_1 : Int) (before6_2 : Int) (before6_3 : Int) : L79_2 n m1 (m2 + 1) l0 v4 is7 known3 now5_0 now5_1 now5_2 now5_3 before6_0 before6_1 before6_2 before6_3 =
    ((bif (is7 == true) then (S88 n (before6_2,before6_3) (now5_2,now5_3)).bind fun r2' =>
        some (decide (r2' ≥ 0))
      else some false)).bind fun b3' =>
    (bif b3' then (bif bounds (some before6_0) (some v4) (some v4) l0.length then (S70 n ((l0.take (Int.toNat v4)).drop (Int.toNat before6_0))).bind fun r4' =>
        L79_2 n m1 m2 l0 v4 ((alook (known3.eraseP (fun p => p.1 == now5_0)) before6_0).isSome) (known3.eraseP (fun p => p.1 == now5_0)) before6_0 v4 r4'.1 r4'.2 (((alook (known3.eraseP (fun p => p.1 == now5_0)) before6_0).getD (0,0,0,0)).1) ((((alook (known3.eraseP (fun p => p.1 == now5_0)) before6_0).getD (0,0,0,0)).2).1) (((((alook (known3.eraseP (fun p => p.1 == now5_0)) before6_0).getD (0,0,0,0)).2).2).1) (((((alook (known3.eraseP (fun p => p.1 == now5_0)) before6_0).getD (0,0,0,0)).2).2).2)
      else none)
    else L79_1 n m1 l0 (wr .i64 (v4 + 1)) (aset known3 v4 (now5_0,now5_1,now5_2,now5_3))) := by kernel_rfl
theorem L79_3_eq (m1 : Nat) (v9 : Int) (known3 : List (Int × Int × Int × Int × Int)) (out8 : List (Int × Int × Int × Int)) : L79_3 n (m1 + 1) v9 known3 out8 =
    (bif decide (v9 > 0) then (bif decide (out8.length + [(((alook known3 v9).getD (0,0,0,0)).1,(((alook known3 v9).getD (0,0,0,0)).2).1,(((alook known3 v9).getD (0,0,0,0)).2).2)].length ≤ lim) then L79_3 n m1 (((alook known3 v9).getD (0,0,0,0)).1) known3 (out8 ++ [(((alook known3 v9).getD (0,0,0,0)).1,(((alook known3 v9).getD (0,0,0,0)).2).1,(((alook known3 v9).getD (0,0,0,0)).2).2)])
      else none)
    else (S104io1 n out8).bind fun r5' =>
      (bif Nat.beq r5'.2.1.length out8.length then some r5'.2.1
      else none)) := by kernel_rfl
noncomputable def S79 (l0 : LP) : Option R79 := run (E79 n) c79 an79 rt79 (fun _ _ => none) rt79 { tm := [.c (.sl (.pair (.int .i64) (.int .i64)) l0 false),uu,uu,uu,uu,uu,uu,uu,uu,uu,uu,uu,uu,uu,uu,uu,uu,uu,uu,uu,uu,uu,uu,uu,uu,uu,uu,uu,uu,uu,uu,uu,uu,uu,uu,uu,uu,uu,uu,uu,uu,uu,uu,uu,uu,uu,uu,uu,uu,uu,uu,uu,uu,uu,uu,uu,uu,uu,uu,uu,uu,uu,uu,uu,uu,uu,uu,uu,uu,uu,uu,uu,uu,uu,uu,uu,uu,uu,uu,uu,uu,uu,uu,uu,uu,uu],hp := emp }
theorem S79_eq (l0 : LP) : S79 n l0 =
    L79_1 n n.1 l0 1 [] := by kernel_rfl
theorem S79_run (xs : pksDen pk79) : S79 n xs.1 = runG (E79 n) noScope c79 an79 (rtG rk79) (fun _ _ => none) (rtG rk79) (st0 pk79 xs Try.f79.ntmps) := by kernel_rfl
noncomputable def P79 := phiOf pk79 rk79 (fun xs => S79 n xs.1)
theorem call79 : CallOK Try.prog 79 := callOK_of Try.func79 (by kernel_rfl) (by kernel_rfl)
theorem env79 : EnvOK Try.prog (E79 n) := envOK (l := io79 n) (consPhi_ok (FC70 n) call70 (consPhi_ok (FC88 n) call88 noPhi_ok)) rfl rfl (by kernel_rfl) ⟨FC104io1 n,call104,trivial⟩
theorem par79 : EnvPar (E79 n) := envPar (l := io79 n) (consPhi_par phiOf_Par1 (consPhi_par phiOf_Par1 noPhi_par)) rfl ⟨phioOf_Pario1,trivial⟩
theorem FC79 : FCs Try.prog 79 (P79 n) := phiOf_FCs fun xs r h vs hv => FC.of_runG tabOK eqsOK (env79 n) (par79 n) mixed (fun _ => noScope_ok) Try.func79 (c := c79) (an := an79) (pks := pk79) (rks := rk79) (by kernel_rfl) (by kernel_rfl) hv ((S79_run n xs).symm.trans h)
abbrev R77 := LP
abbrev K77 := St → Option R77
noncomputable def c77 : Code := bodyOf Try.f77
noncomputable def an77 : Ann := (.s .l (.s .l (.s (.s .l (.j [3] (.j [3,7,8,9] (.s .l (.s (.j [3,7,8,9] .l .l) (.s (.j [3,7,8,9] (.s .l (.s .l (.j [3,7,8,9] (.j [3,5,7,8,9,17,18] (.s .l (.s (.j [3,5,7,8,9,17,18] .l .l) (.s (.j [3,5,7,8,9,17,18] .l .l) .l))) .l) .l))) .l) .l))) .l) .l)) .l)))
def pk77 : List PK := [.c (.sl (.pair (.int .i64) (.int .i64)))]
def rk77 : List RK := [.own (.pair (.int .i64) (.int .i64)) 2]
noncomputable def rt77 (st : St) : Option R77 := rtG rk77 st
noncomputable def E77 : Env := { T := tab,phi := (consPhi 79 (fun _ => true) (P79 n) noPhi),eff := fun _ => false,fuel := n.1,hold := n.2 }
noncomputable def kq77_1 : K77 := run (E77 n) (cB (cB (cB c77))) an77.snd.snd.snd rt77 (fun _ _ => none) rt77
noncomputable def xb77_3 : Nat → K77 := fun j s => bif Nat.beq j 0 then normC [3] s (kq77_1 n) else (fun _ _ => none) j s
noncomputable def F77_4 : (K77) → K77 := fun K s => run (E77 n) (cA (cA (cB (cA (cB (cB c77)))))) an77.snd.snd.fst.snd.fst.fst (fun s => normC [3,7,8,9] s K) (xb77_3 n) rt77 s
noncomputable def kq77_7 (m1 : Nat) : K77 := run (E77 n) (cB (cB (cB (cA (cA (cB (cA (cB (cB c77))))))))) an77.snd.snd.fst.snd.fst.fst.snd.snd.snd (fun s => normC [3,7,8,9] s (loopN (F77_4 n) m1)) (xb77_3 n) rt77
noncomputable def kc77_8 (m1 : Nat) : K77 := fun s => normC [3,7,8,9] s (kq77_7 n m1)
noncomputable def xb77_9 (m1 : Nat) : Nat → K77 := fun j s => bif Nat.beq j 1 then normC [3,7,8,9] s (kq77_7 n m1) else (xb77_3 n) j s
noncomputable def xb77_11 (m1 : Nat) : Nat → K77 := fun j s => bif Nat.beq j 2 then normC [3,7,8,9] s (kc77_8 n m1) else (xb77_9 n m1) j s
noncomputable def F77_12 (m1 : Nat) : (K77) → K77 := fun K s => run (E77 n) (cA (cA (cB (cB (cA (cA (cB (cB (cA (cA (cB (cA (cB (cB c77)))))))))))))) an77.snd.snd.fst.snd.fst.fst.snd.snd.fst.fst.snd.snd.fst.fst (fun s => normC [3,5,7,8,9,17,18] s K) (xb77_11 n m1) rt77 s
noncomputable def L77_1 (m : Nat) (v8 : Int) (v9 : Int) (out3 : LP) (v7 : List (Int × Int × Int × Int)) : Option R77 := loopN (F77_4 n) m { tm := [uu,uu,uu,.own 3 none false,uu,uu,uu,.own 7 none false,.c (.int .i64 v8),.c (.int .i64 v9),uu,uu,uu,uu,uu,uu,uu,uu,uu,uu,uu,uu,uu,uu,uu,uu,uu,uu],hp := (upd (upd emp 7 (.arr (.pair (.int .i64) (.pair (.int .i64) (.pair (.int .i64) (.int .i64)))) v7 false)) 3 (.arr (.pair (.int .i64) (.int .i64)) out3 true)) }
noncomputable def L77_2 (m1 : Nat) (m : Nat) (v8 : Int) (v9 : Int) (v17 : Int) (v18 : Int) (out3 : LP) (b5_0 : Int) (b5_1 : Int) (b5_2 : Int) (b5_3 : Int) (v7 : List (Int × Int × Int × Int)) : Option R77 := loopN (F77_12 n m1) m { tm := [uu,uu,uu,.own 3 none false,uu,.ptr 5 0,uu,.own 7 none false,.c (.int .i64 v8),.c (.int .i64 v9),uu,uu,uu,uu,uu,uu,uu,.c (.int .i64 v17),.c (.int .i64 v18),uu,uu,uu,uu,uu,uu,uu,uu,uu],hp := (upd (upd (upd emp 7 (.arr (.pair (.int .i64) (.pair (.int .i64) (.pair (.int .i64) (.int .i64)))) v7 false)) 5 (.box [.int .i64 b5_0,.int .i64 b5_1,.int .i64 b5_2,.int .i64 b5_3])) 3 (.arr (.pair (.int .i64) (.int .i64)) out3 true)) }
theorem L77_1_eq (m1 : Nat) (v8 : Int) (v9 : Int) (out3 : LP) (v7 : List (Int × Int × Int × Int)) : L77_1 n (m1 + 1) v8 v9 out3 v7 =
    (bif decide (v9 < v8) then (bif inB v9 v7.length then (idx v7 v9).bind fun x2' =>
        L77_2 n m1 n.1 v8 v9 (wr .i64 (x2'.2.1 - x2'.1)) 0 out3 x2'.1 x2'.2.1 x2'.2.2.1 x2'.2.2.2 v7
      else none)
    else some out3) := by kernel_rfl
theorem L77_2_eq (m1 m2 : Nat) (v8 : Int) (v9 : Int) (v17 : Int) (v18 : Int) (out3 : LP) (b5_0 : Int) (b5_1 : Int) (b5_2 : Int) (b5_3 : Int) (v7 : List (Int × Int × Int × Int)) : L77_2 n m1 (m2 + 1) v8 v9 v17 v18 out3 b5_0 b5_1 b5_2 b5_3 v7 =
    (bif decide (v18 < v17) then (bif decide (out3.length + [(b5_2,b5_3)].length ≤ lim) then L77_2 n m1 m2 v8 v9 v17 (wr .i64 (v18 + 1)) (out3 ++ [(b5_2,b5_3)]) b5_0 b5_1 b5_2 b5_3 v7
      else none)
    else L77_1 n m1 v8 (wr .i64 (v9 + 1)) out3 v7) := by kernel_rfl
noncomputable def S77 (l0 : LP) : Option R77 := run (E77 n) c77 an77 rt77 (fun _ _ => none) rt77 { tm := [.c (.sl (.pair (.int .i64) (.int .i64)) l0 false),uu,uu,uu,uu,uu,uu,uu,uu,uu,uu,uu,uu,uu,uu,uu,uu,uu,uu,uu,uu,uu,uu,uu,uu,uu,uu,uu],hp := emp }
theorem S77_eq (l0 : LP) : S77 n l0 =
    (S79 n l0).bind fun r1' =>
    L77_1 n n.1 (r1'.length : Int) 0 [] r1' := by kernel_rfl
theorem S77_run (xs : pksDen pk77) : S77 n xs.1 = runG (E77 n) noScope c77 an77 (rtG rk77) (fun _ _ => none) (rtG rk77) (st0 pk77 xs Try.f77.ntmps) := by kernel_rfl
noncomputable def P77 := phiOf pk77 rk77 (fun xs => S77 n xs.1)
theorem call77 : CallOK Try.prog 77 := callOK_of Try.func77 (by kernel_rfl) (by kernel_rfl)
theorem env77 : EnvOK Try.prog (E77 n) := envOK0 (consPhi_ok (FC79 n) call79 noPhi_ok) rfl rfl
theorem par77 : EnvPar (E77 n) := envPar0 (consPhi_par phiOf_Par1 noPhi_par) rfl
theorem FC77 : FCs Try.prog 77 (P77 n) := phiOf_FCs fun xs r h vs hv => FC.of_runG tabOK eqsOK (env77 n) (par77 n) mixed (fun _ => noScope_ok) Try.func77 (c := c77) (an := an77) (pks := pk77) (rks := rk77) (by kernel_rfl) (by kernel_rfl) hv ((S77_run n xs).symm.trans h)
abbrev R30 := LP × Int
noncomputable def c30 : Code := bodyOf Try.f30
noncomputable def an30 : Ann := (.s .l (.s (.s .l (.s .l (.j [0] .l .l))) .l))
def pk30 : List PK := [.c (.sl (.pair (.int .i64) (.int .i64)))]
def rk30 : List RK := [.sl (.pair (.int .i64) (.int .i64)) 2,.c (.int .i64) 3]
noncomputable def rt30 (st : St) : Option R30 := rtG rk30 st
noncomputable def E30 : Env := { T := tab,phi := (consPhi 24 (fun _ => true) (P24 n) (consPhi 77 (fun _ => true) (P77 n) noPhi)),eff := fun _ => false,fuel := n.1,hold := n.2 }
noncomputable def S30 (l0 : LP) : Option R30 := run (E30 n) c30 an30 rt30 (fun _ _ => none) rt30 { tm := [.c (.sl (.pair (.int .i64) (.int .i64)) l0 false),uu,uu,uu,uu,uu,uu,uu,uu,uu,uu,uu],hp := emp }
theorem S30_eq (l0 : LP) : S30 n l0 =
    (S24 n l0).bind fun r1' =>
    (bif (r1' != 0) then some ([],r1')
    else (S77 n l0).bind fun r2' =>
      some (r2',0)) := by kernel_rfl
theorem S30_run (xs : pksDen pk30) : S30 n xs.1 = runG (E30 n) noScope c30 an30 (rtG rk30) (fun _ _ => none) (rtG rk30) (st0 pk30 xs Try.f30.ntmps) := by kernel_rfl
noncomputable def P30 := phiOf pk30 rk30 (fun xs => S30 n xs.1)
theorem call30 : CallOK Try.prog 30 := callOK_of Try.func30 (by kernel_rfl) (by kernel_rfl)
theorem env30 : EnvOK Try.prog (E30 n) := envOK0 (consPhi_ok (FC24 n) call24 (consPhi_ok (FC77 n) call77 noPhi_ok)) rfl rfl
theorem par30 : EnvPar (E30 n) := envPar0 (consPhi_par phiOf_Par1 (consPhi_par phiOf_Par1 noPhi_par)) rfl
theorem FC30 : FCs Try.prog 30 (P30 n) := phiOf_FCs fun xs r h vs hv => FC.of_runG tabOK eqsOK (env30 n) (par30 n) mixed (fun _ => noScope_ok) Try.func30 (c := c30) (an := an30) (pks := pk30) (rks := rk30) (by kernel_rfl) (by kernel_rfl) hv ((S30_run n xs).symm.trans h)
abbrev R32 := (List (Int × Int × Int × Int)) × Int
noncomputable def c32 : Code := bodyOf Try.f32
noncomputable def an32 : Ann := (.s .l (.s (.s .l (.s .l (.j [0] .l .l))) .l))
def pk32 : List PK := [.c (.sl (.pair (.int .i64) (.int .i64)))]
def rk32 : List RK := [.own (.pair (.int .i64) (.pair (.int .i64) (.pair (.int .i64) (.int .i64)))) 2,.c (.int .i64) 3]
noncomputable def rt32 (st : St) : Option R32 := rtG rk32 st
noncomputable def E32 : Env := { T := tab,phi := (consPhi 24 (fun _ => true) (P24 n) (consPhi 79 (fun _ => true) (P79 n) noPhi)),eff := fun _ => false,fuel := n.1,hold := n.2 }
noncomputable def S32 (l0 : LP) : Option R32 := run (E32 n) c32 an32 rt32 (fun _ _ => none) rt32 { tm := [.c (.sl (.pair (.int .i64) (.int .i64)) l0 false),uu,uu,uu,uu,uu,uu,uu,uu,uu,uu,uu],hp := emp }
theorem S32_eq (l0 : LP) : S32 n l0 =
    (S24 n l0).bind fun r1' =>
    (bif (r1' != 0) then some ([],r1')
    else (S79 n l0).bind fun r2' =>
      some (r2',0)) := by kernel_rfl
theorem S32_run (xs : pksDen pk32) : S32 n xs.1 = runG (E32 n) noScope c32 an32 (rtG rk32) (fun _ _ => none) (rtG rk32) (st0 pk32 xs Try.f32.ntmps) := by kernel_rfl
noncomputable def P32 := phiOf pk32 rk32 (fun xs => S32 n xs.1)
theorem call32 : CallOK Try.prog 32 := callOK_of Try.func32 (by kernel_rfl) (by kernel_rfl)
theorem env32 : EnvOK Try.prog (E32 n) := envOK0 (consPhi_ok (FC24 n) call24 (consPhi_ok (FC79 n) call79 noPhi_ok)) rfl rfl
theorem par32 : EnvPar (E32 n) := envPar0 (consPhi_par phiOf_Par1 (consPhi_par phiOf_Par1 noPhi_par)) rfl
theorem FC32 : FCs Try.prog 32 (P32 n) := phiOf_FCs fun xs r h vs hv => FC.of_runG tabOK eqsOK (env32 n) (par32 n) mixed (fun _ => noScope_ok) Try.func32 (c := c32) (an := an32) (pks := pk32) (rks := rk32) (by kernel_rfl) (by kernel_rfl) hv ((S32_run n xs).symm.trans h)
abbrev R54 := LP
noncomputable def c54 : Code := bodyOf Try.f54
noncomputable def an54 : Ann := .l
def pk54 : List PK := []
def rk54 : List RK := [.own (.pair (.int .i64) (.int .i64)) 0]
noncomputable def rt54 (st : St) : Option R54 := rtG rk54 st
noncomputable def E54 : Env := { T := tab,phi := (consPhi 60 (fun _ => true) (P60 n) noPhi),eff := fun _ => false,fuel := n.1,hold := n.2 }
noncomputable def S54 : Option R54 := run (E54 n) c54 an54 rt54 (fun _ _ => none) rt54 { tm := [uu,uu,uu],hp := emp }
theorem S54_eq : S54 n =
    (S60 n [3,1,1,1,2,1]).bind fun r1' =>
    some r1' := by kernel_rfl
theorem S54_run (xs : pksDen pk54) : S54 n = runG (E54 n) noScope c54 an54 (rtG rk54) (fun _ _ => none) (rtG rk54) (st0 pk54 xs Try.f54.ntmps) := by kernel_rfl
noncomputable def P54 := phiOf pk54 rk54 (fun xs => S54 n)
theorem call54 : CallOK Try.prog 54 := callOK_of Try.func54 (by kernel_rfl) (by kernel_rfl)
theorem env54 : EnvOK Try.prog (E54 n) := envOK0 (consPhi_ok (FC60 n) call60 noPhi_ok) rfl rfl
theorem par54 : EnvPar (E54 n) := envPar0 (consPhi_par phiOf_Par1 noPhi_par) rfl
theorem FC54 : FCs Try.prog 54 (P54 n) := phiOf_FCs fun xs r h vs hv => FC.of_runG tabOK eqsOK (env54 n) (par54 n) mixed (fun _ => noScope_ok) Try.func54 (c := c54) (an := an54) (pks := pk54) (rks := rk54) (by kernel_rfl) (by kernel_rfl) hv ((S54_run n xs).symm.trans h)
abbrev R80 := Int × Int
noncomputable def c80 : Code := bodyOf Try.f80
noncomputable def an80 : Ann := .l
def pk80 : List PK := [.c (.pair (.int .i64) (.int .i64)),.c (.int .i64),.c (.int .i64)]
def rk80 : List RK := [.box (.pair (.int .i64) (.int .i64)) 6]
noncomputable def rt80 (st : St) : Option R80 := rtG rk80 st
noncomputable def E80 : Env := { T := tab,phi := (consPhi 98 (fun _ => true) (P98 n) (consPhi 105 (fun _ => true) (P105 n) noPhi)),eff := fun _ => false,fuel := n.1,hold := n.2 }
noncomputable def S80 (f0 : Int × Int) (num1 : Int) (den2 : Int) : Option R80 := run (E80 n) c80 an80 rt80 (fun _ _ => none) rt80 { tm := [.agg [.int .i64 f0.1,.int .i64 f0.2],.c (.int .i64 num1),.c (.int .i64 den2),uu,uu,uu,uu,uu,uu,uu,uu,uu,uu,uu,uu,uu,uu,uu,uu,uu,uu,uu,uu,uu,uu,uu,uu,uu,uu,uu,uu,uu],hp := emp }
theorem S80_eq (f0 : Int × Int) (num1 : Int) (den2 : Int) : S80 n f0 num1 den2 =
    (S105 n f0.2 den2).bind fun r1' =>
    (bif r1' == 0 then none
    else (bif r1' == 0 then none
      else (bif r1' == 0 then none
        else (S98 n (wr .i64 ((wr .i64 (f0.1 * (wr .i64 (Int.tdiv den2 r1')))) + (wr .i64 (num1 * (wr .i64 (Int.tdiv f0.2 r1')))))) (wr .i64 ((wr .i64 (Int.tdiv f0.2 r1')) * den2))).bind fun r2' =>
          some r2'))) := by kernel_rfl
theorem S80_run (xs : pksDen pk80) : S80 n xs.1 xs.2.1 xs.2.2.1 = runG (E80 n) noScope c80 an80 (rtG rk80) (fun _ _ => none) (rtG rk80) (st0 pk80 xs Try.f80.ntmps) := by kernel_rfl
noncomputable def P80 := phiOf pk80 rk80 (fun xs => S80 n xs.1 xs.2.1 xs.2.2.1)
theorem call80 : CallOK Try.prog 80 := callOK_of Try.func80 (by kernel_rfl) (by kernel_rfl)
theorem env80 : EnvOK Try.prog (E80 n) := envOK0 (consPhi_ok (FC98 n) call98 (consPhi_ok (FC105 n) call105 noPhi_ok)) rfl rfl
theorem par80 : EnvPar (E80 n) := envPar0 (consPhi_par phiOf_Par1 (consPhi_par phiOf_Par1 noPhi_par)) rfl
theorem FC80 : FCs Try.prog 80 (P80 n) := phiOf_FCs fun xs r h vs hv => FC.of_runG tabOK eqsOK (env80 n) (par80 n) mixed (fun _ => noScope_ok) Try.func80 (c := c80) (an := an80) (pks := pk80) (rks := rk80) (by kernel_rfl) (by kernel_rfl) hv ((S80_run n xs).symm.trans h)
abbrev R35 := (Int × Int) × Int
abbrev K35 := St → Option R35
noncomputable def c35 : Code := bodyOf Try.f35
noncomputable def an35 : Ann := (.s .l (.s (.s .l (.s .l (.j [0,2] .l .l))) (.s .l (.s (.s .l (.j [2,5] (.j [0,2,5,20,21,22] (.s .l (.s (.j [0,2,5,20,21,22] .l .l) (.s (.j [0,2,5,20,21,22] (.s .l (.s .l (.s (.s .l (.j [0,2,5,8,9,20,21,22] (.j [0,2,5,8,9,20,21,22,33,34,35] (.s .l (.s (.j [0,2,5,8,9,20,21,22,33,34,35] .l .l) (.s (.j [0,2,5,8,9,20,21,22,33,34,35] .l .l) .l))) .l) .l)) .l))) .l) .l))) .l) .l)) .l))))
def pk35 : List PK := [.c (.sl (.pair (.int .i64) (.int .i64)))]
def rk35 : List RK := [.box (.pair (.int .i64) (.int .i64)) 2,.c (.int .i64) 3]
noncomputable def rt35 (st : St) : Option R35 := rtG rk35 st
noncomputable def E35 : Env := { T := tab,phi := (consPhi 24 (fun _ => true) (P24 n) (consPhi 79 (fun _ => true) (P79 n) (consPhi 80 (fun _ => true) (P80 n) noPhi))),eff := fun _ => false,fuel := n.1,hold := n.2 }
noncomputable def kq35_3 : K35 := run (E35 n) (cB (cB (cB (cB c35)))) an35.snd.snd.snd.snd rt35 (fun _ _ => none) rt35
noncomputable def xb35_5 : Nat → K35 := fun j s => bif Nat.beq j 0 then normC [2,5] s (kq35_3 n) else (fun _ _ => none) j s
noncomputable def F35_6 : (K35) → K35 := fun K s => run (E35 n) (cA (cA (cB (cA (cB (cB (cB c35))))))) an35.snd.snd.snd.fst.snd.fst.fst (fun s => normC [0,2,5,20,21,22] s K) (xb35_5 n) rt35 s
noncomputable def kq35_9 (m1 : Nat) : K35 := run (E35 n) (cB (cB (cB (cA (cA (cB (cA (cB (cB (cB c35)))))))))) an35.snd.snd.snd.fst.snd.fst.fst.snd.snd.snd (fun s => normC [0,2,5,20,21,22] s (loopN (F35_6 n) m1)) (xb35_5 n) rt35
noncomputable def kc35_10 (m1 : Nat) : K35 := fun s => normC [0,2,5,20,21,22] s (kq35_9 n m1)
noncomputable def xb35_11 (m1 : Nat) : Nat → K35 := fun j s => bif Nat.beq j 1 then normC [0,2,5,20,21,22] s (kq35_9 n m1) else (xb35_5 n) j s
noncomputable def kq35_12 (m1 : Nat) : K35 := run (E35 n) (cB (cB (cB (cA (cA (cB (cB (cA (cA (cB (cA (cB (cB (cB c35)))))))))))))) an35.snd.snd.snd.fst.snd.fst.fst.snd.snd.fst.fst.snd.snd.snd (kc35_10 n m1) (xb35_11 n m1) rt35
noncomputable def xb35_14 (m1 : Nat) : Nat → K35 := fun j s => bif Nat.beq j 2 then normC [0,2,5,8,9,20,21,22] s (kq35_12 n m1) else (xb35_11 n m1) j s
noncomputable def F35_15 (m1 : Nat) : (K35) → K35 := fun K s => run (E35 n) (cA (cA (cB (cA (cB (cB (cA (cA (cB (cB (cA (cA (cB (cA (cB (cB (cB c35))))))))))))))))) an35.snd.snd.snd.fst.snd.fst.fst.snd.snd.fst.fst.snd.snd.fst.snd.fst.fst (fun s => normC [0,2,5,8,9,20,21,22,33,34,35] s K) (xb35_14 n m1) rt35 s
noncomputable def L35_1 (m : Nat) (l0 : LP) (v21 : Int) (v22 : Int) (v2_0 : Int) (v2_1 : Int) (out5_0 : Int) (out5_1 : Int) (v20 : List (Int × Int × Int × Int)) : Option R35 := loopN (F35_6 n) m { tm := [.c (.sl (.pair (.int .i64) (.int .i64)) l0 false),uu,.ptr 2 0,uu,uu,.ptr 5 0,uu,uu,uu,uu,uu,uu,uu,uu,uu,uu,uu,uu,uu,uu,.own 20 none false,.c (.int .i64 v21),.c (.int .i64 v22),uu,uu,uu,uu,uu,uu,uu,uu,uu,uu,uu,uu,uu,uu,uu,uu,uu,uu,uu,uu,uu,uu,uu,uu,uu,uu,uu,uu,uu,uu,uu,uu,uu,uu,uu,uu,uu,uu,uu,uu,uu,uu,uu,uu,uu,uu,uu,uu,uu,uu,uu,uu],hp := (upd (upd (upd emp 20 (.arr (.pair (.int .i64) (.pair (.int .i64) (.pair (.int .i64) (.int .i64)))) v20 false)) 5 (.box [.int .i64 out5_0,.int .i64 out5_1])) 2 (.box [.int .i64 v2_0,.int .i64 v2_1])) }
noncomputable def L35_2 (m1 : Nat) (m : Nat) (l0 : LP) (sum8 : Int) (trust9 : Int) (v21 : Int) (v22 : Int) (v33 : LP) (v34 : Int) (v35 : Int) (v2_0 : Int) (v2_1 : Int) (out5_0 : Int) (out5_1 : Int) (v20 : List (Int × Int × Int × Int)) : Option R35 := loopN (F35_15 n m1) m { tm := [.c (.sl (.pair (.int .i64) (.int .i64)) l0 false),uu,.ptr 2 0,uu,uu,.ptr 5 0,uu,uu,.c (.int .i64 sum8),.c (.int .i64 trust9),uu,uu,uu,uu,uu,uu,uu,uu,uu,uu,.own 20 none false,.c (.int .i64 v21),.c (.int .i64 v22),uu,uu,uu,uu,uu,uu,uu,uu,uu,uu,.c (.sl (.pair (.int .i64) (.int .i64)) v33 false),.c (.int .i64 v34),.c (.int .i64 v35),uu,uu,uu,uu,uu,uu,uu,uu,uu,uu,uu,uu,uu,uu,uu,uu,uu,uu,uu,uu,uu,uu,uu,uu,uu,uu,uu,uu,uu,uu,uu,uu,uu,uu,uu,uu,uu,uu,uu],hp := (upd (upd (upd emp 20 (.arr (.pair (.int .i64) (.pair (.int .i64) (.pair (.int .i64) (.int .i64)))) v20 false)) 5 (.box [.int .i64 out5_0,.int .i64 out5_1])) 2 (.box [.int .i64 v2_0,.int .i64 v2_1])) }
theorem L35_1_eq (m1 : Nat) (l0 : LP) (v21 : Int) (v22 : Int) (v2_0 : Int) (v2_1 : Int) (out5_0 : Int) (out5_1 : Int) (v20 : List (Int × Int × Int × Int)) : L35_1 n (m1 + 1) l0 v21 v22 v2_0 v2_1 out5_0 out5_1 v20 =
    (bif decide (v22 < v21) then (bif inB v22 v20.length then (idx v20 v22).bind fun x3' =>
        (bif bounds (some x3'.1) (some x3'.2.1) (some x3'.2.1) l0.length then L35_2 n m1 n.1 l0 0 0 v21 v22 ((l0.take (Int.toNat x3'.2.1)).drop (Int.toNat x3'.1)) (((l0.take (Int.toNat x3'.2.1)).drop (Int.toNat x3'.1)).length : Int) 0 v2_0 v2_1 out5_0 out5_1 v20
        else none)
      else none)
    else some ((out5_0,out5_1),0)) := by kernel_rfl
theorem L35_2_eq (m1 m2 : Nat) (l0 : LP) (sum8 : Int) (trust9 : Int) (v21 : Int) (v22 : Int) (v33 : LP) (v34 : Int) (v35 : Int) (v2_0 : Int) (v2_1 : Int) (out5_0 : Int) (out5_1 : Int) (v20 : List (Int × Int × Int × Int)) : L35_2 n m1 (m2 + 1) l0 sum8 trust9 v21 v22 v33 v34 v35 v2_0 v2_1 out5_0 out5_1 v20 =
    (bif decide (v35 < v34) then (idx v33 v35).bind fun x4' =>
      L35_2 n m1 m2 l0 (wr .i64 (sum8 + (wr .i64 (x4'.1 * x4'.2)))) (wr .i64 (trust9 + x4'.2)) v21 v22 v33 v34 (wr .i64 (v35 + 1)) v2_0 v2_1 (wr .i64 (out5_0 + (wr .i64 ((wr .i64 ((wr .i64 (x4'.2 * x4'.1)) * x4'.1)) * out5_1)))) out5_1 v20
    else (S80 n (out5_0,out5_1) (wr .i64 ((wr .i64 (0 - sum8)) * sum8)) trust9).bind fun r5' =>
      L35_1 n m1 l0 v21 (wr .i64 (v22 + 1)) v2_0 v2_1 r5'.1 r5'.2 v20) := by kernel_rfl
noncomputable def S35 (l0 : LP) : Option R35 := run (E35 n) c35 an35 rt35 (fun _ _ => none) rt35 { tm := [.c (.sl (.pair (.int .i64) (.int .i64)) l0 false),uu,uu,uu,uu,uu,uu,uu,uu,uu,uu,uu,uu,uu,uu,uu,uu,uu,uu,uu,uu,uu,uu,uu,uu,uu,uu,uu,uu,uu,uu,uu,uu,uu,uu,uu,uu,uu,uu,uu,uu,uu,uu,uu,uu,uu,uu,uu,uu,uu,uu,uu,uu,uu,uu,uu,uu,uu,uu,uu,uu,uu,uu,uu,uu,uu,uu,uu,uu,uu,uu,uu,uu,uu,uu],hp := emp }
theorem S35_eq (l0 : LP) : S35 n l0 =
    (S24 n l0).bind fun r1' =>
    (bif (r1' != 0) then some ((0,0),r1')
    else (S79 n l0).bind fun r2' =>
      L35_1 n n.1 l0 (r2'.length : Int) 0 0 0 0 1 r2') := by kernel_rfl
theorem S35_run (xs : pksDen pk35) : S35 n xs.1 = runG (E35 n) noScope c35 an35 (rtG rk35) (fun _ _ => none) (rtG rk35) (st0 pk35 xs Try.f35.ntmps) := by kernel_rfl
noncomputable def P35 := phiOf pk35 rk35 (fun xs => S35 n xs.1)
theorem call35 : CallOK Try.prog 35 := callOK_of Try.func35 (by kernel_rfl) (by kernel_rfl)
theorem env35 : EnvOK Try.prog (E35 n) := envOK0 (consPhi_ok (FC24 n) call24 (consPhi_ok (FC79 n) call79 (consPhi_ok (FC80 n) call80 noPhi_ok))) rfl rfl
theorem par35 : EnvPar (E35 n) := envPar0 (consPhi_par phiOf_Par1 (consPhi_par phiOf_Par1 (consPhi_par phiOf_Par1 noPhi_par))) rfl
theorem FC35 : FCs Try.prog 35 (P35 n) := phiOf_FCs fun xs r h vs hv => FC.of_runG tabOK eqsOK (env35 n) (par35 n) mixed (fun _ => noScope_ok) Try.func35 (c := c35) (an := an35) (pks := pk35) (rks := rk35) (by kernel_rfl) (by kernel_rfl) hv ((S35_run n xs).symm.trans h)
abbrev R20 := Int × Int
abbrev K20 := St → Option R20
noncomputable def c20 : Code := bodyOf Try.f20
noncomputable def an20 : Ann := (.s .l (.s (.s .l (.s .l (.j [0] .l .l))) (.s (.s .l (.j [] (.j [0,13,14] (.s .l (.s (.j [0,13,14] .l .l) (.s (.j [0,13,14] (.s .l (.s .l (.j [0,13,14] .l .l))) .l) .l))) .l) .l)) .l)))
def pk20 : List PK := [.c (.sl (.pair (.int .i64) (.int .i64)))]
def rk20 : List RK := [.c (.int .i64) 2,.c (.int .i64) 3]
noncomputable def rt20 (st : St) : Option R20 := rtG rk20 st
noncomputable def E20 : Env := { T := tab,phi := (consPhi 24 (fun _ => true) (P24 n) noPhi),eff := fun _ => false,fuel := n.1,hold := n.2 }
noncomputable def kq20_3 : K20 := run (E20 n) (cB (cB (cB c20))) an20.snd.snd.snd rt20 (fun _ _ => none) rt20
noncomputable def xb20_5 : Nat → K20 := fun j s => bif Nat.beq j 0 then normC [] s (kq20_3 n) else (fun _ _ => none) j s
noncomputable def F20_6 : (K20) → K20 := fun K s => run (E20 n) (cA (cA (cB (cA (cB (cB c20)))))) an20.snd.snd.fst.snd.fst.fst (fun s => normC [0,13,14] s K) (xb20_5 n) rt20 s
noncomputable def L20_1 (m : Nat) (l0 : LP) (v13 : Int) (v14 : Int) : Option R20 := loopN (F20_6 n) m { tm := [.c (.sl (.pair (.int .i64) (.int .i64)) l0 false),uu,uu,uu,uu,uu,uu,uu,uu,uu,uu,uu,uu,.c (.int .i64 v13),.c (.int .i64 v14),uu,uu,uu,uu,uu,uu,uu,uu,uu,uu,uu,uu,uu,uu,uu,uu],hp := emp }
theorem L20_1_eq (m1 : Nat) (l0 : LP) (v13 : Int) (v14 : Int) : L20_1 n (m1 + 1) l0 v13 v14 =
    (bif decide (v14 < v13) then (idx l0 v14).bind fun x2' =>
      (idx l0 (wr .i64 (v14 + 1))).bind fun x3' =>
      (bif decide (x2'.1 > x3'.1) then some (v14,0)
      else L20_1 n m1 l0 v13 (wr .i64 (v14 + 1)))
    else some (0,13)) := by kernel_rfl
noncomputable def S20 (l0 : LP) : Option R20 := run (E20 n) c20 an20 rt20 (fun _ _ => none) rt20 { tm := [.c (.sl (.pair (.int .i64) (.int .i64)) l0 false),uu,uu,uu,uu,uu,uu,uu,uu,uu,uu,uu,uu,uu,uu,uu,uu,uu,uu,uu,uu,uu,uu,uu,uu,uu,uu,uu,uu,uu,uu],hp := emp }
theorem S20_eq (l0 : LP) : S20 n l0 =
    (S24 n l0).bind fun r1' =>
    (bif (r1' != 0) then some (0,r1')
    else L20_1 n n.1 l0 (wr .i64 ((l0.length : Int) - 1)) 0) := by kernel_rfl
theorem S20_run (xs : pksDen pk20) : S20 n xs.1 = runG (E20 n) noScope c20 an20 (rtG rk20) (fun _ _ => none) (rtG rk20) (st0 pk20 xs Try.f20.ntmps) := by kernel_rfl
noncomputable def P20 := phiOf pk20 rk20 (fun xs => S20 n xs.1)
theorem call20 : CallOK Try.prog 20 := callOK_of Try.func20 (by kernel_rfl) (by kernel_rfl)
theorem env20 : EnvOK Try.prog (E20 n) := envOK0 (consPhi_ok (FC24 n) call24 noPhi_ok) rfl rfl
theorem par20 : EnvPar (E20 n) := envPar0 (consPhi_par phiOf_Par1 noPhi_par) rfl
theorem FC20 : FCs Try.prog 20 (P20 n) := phiOf_FCs fun xs r h vs hv => FC.of_runG tabOK eqsOK (env20 n) (par20 n) mixed (fun _ => noScope_ok) Try.func20 (c := c20) (an := an20) (pks := pk20) (rks := rk20) (by kernel_rfl) (by kernel_rfl) hv ((S20_run n xs).symm.trans h)
abbrev R22 := (Int × Int) × Int
noncomputable def c22 : Code := bodyOf Try.f22
noncomputable def an22 : Ann := (.s .l (.s .l (.s (.j [0,1,2,6] (.s .l (.j [0,1,2,6] .l (.s .l (.j [0,1,2,6] .l (.s .l (.j [0,1,2,6] .l .l)))))) .l) .l)))
def pk22 : List PK := [.c (.sl (.pair (.int .i64) (.int .i64))),.c (.int .i64),.c (.int .i64)]
def rk22 : List RK := [.box (.pair (.int .i64) (.int .i64)) 6,.c (.int .i64) 7]
noncomputable def rt22 (st : St) : Option R22 := rtG rk22 st
noncomputable def E22 : Env := { T := tab,phi := (consPhi 24 (fun _ => true) (P24 n) (consPhi 70 (fun _ => true) (P70 n) noPhi)),eff := fun _ => false,fuel := n.1,hold := n.2 }
noncomputable def S22 (l0 : LP) (begin1 : Int) (v2 : Int) : Option R22 := run (E22 n) c22 an22 rt22 (fun _ _ => none) rt22 { tm := [.c (.sl (.pair (.int .i64) (.int .i64)) l0 false),.c (.int .i64 begin1),.c (.int .i64 v2),uu,uu,uu,uu,uu,uu,uu,uu,uu,uu,uu,uu,uu,uu,uu,uu,uu,uu,uu,uu,uu,uu,uu,uu,uu,uu,uu,uu,uu,uu,uu,uu,uu,uu,uu,uu,uu,uu],hp := emp }
theorem S22_eq (l0 : LP) (begin1 : Int) (v2 : Int) : S22 n l0 begin1 v2 =
    (S24 n l0).bind fun r1' =>
    (bif (r1' != 0) then some ((0,0),r1')
    else ((bif (decide ((if v2 < begin1 then v2 else begin1) < 0) == false) then some (decide ((if v2 > begin1 then v2 else begin1) > (l0.length : Int)))
        else some true)).bind fun b2' =>
      (bif b2' then some ((0,0),2)
      else (bif decide (v2 ≤ begin1) then some ((0,0),7)
        else (bif bounds (some begin1) (some v2) (some v2) l0.length then (S70 n ((l0.take (Int.toNat v2)).drop (Int.toNat begin1))).bind fun r3' =>
            some (r3',0)
          else none)))) := by kernel_rfl
theorem S22_run (xs : pksDen pk22) : S22 n xs.1 xs.2.1 xs.2.2.1 = runG (E22 n) noScope c22 an22 (rtG rk22) (fun _ _ => none) (rtG rk22) (st0 pk22 xs Try.f22.ntmps) := by kernel_rfl
noncomputable def P22 := phiOf pk22 rk22 (fun xs => S22 n xs.1 xs.2.1 xs.2.2.1)
theorem call22 : CallOK Try.prog 22 := callOK_of Try.func22 (by kernel_rfl) (by kernel_rfl)
theorem env22 : EnvOK Try.prog (E22 n) := envOK0 (consPhi_ok (FC24 n) call24 (consPhi_ok (FC70 n) call70 noPhi_ok)) rfl rfl
theorem par22 : EnvPar (E22 n) := envPar0 (consPhi_par phiOf_Par1 (consPhi_par phiOf_Par1 noPhi_par)) rfl
theorem FC22 : FCs Try.prog 22 (P22 n) := phiOf_FCs fun xs r h vs hv => FC.of_runG tabOK eqsOK (env22 n) (par22 n) mixed (fun _ => noScope_ok) Try.func22 (c := c22) (an := an22) (pks := pk22) (rks := rk22) (by kernel_rfl) (by kernel_rfl) hv ((S22_run n xs).symm.trans h)
abbrev R101 := Int
noncomputable def c101 : Code := bodyOf Try.f101
noncomputable def an101 : Ann := .l
def pk101 : List PK := [.c (.pair (.int .i64) (.int .i64)),.c (.pair (.int .i64) (.int .i64)),.p (.int .i64)]
def rk101 : List RK := [.c (.int .i64) 5]
noncomputable def rt101 (st : St) : Option R101 := rtG rk101 st
noncomputable def E101 : Env := { T := tab,phi := (consPhi 88 (fun _ => true) (P88 n) noPhi),eff := fun _ => false,fuel := n.1,hold := n.2 }
noncomputable def S101 (a0 : Int × Int) (b1 : Int × Int) (v2 : Int) : Option R101 := run (E101 n) c101 an101 rt101 (fun _ _ => none) rt101 { tm := [.agg [.int .i64 a0.1,.int .i64 a0.2],.agg [.int .i64 b1.1,.int .i64 b1.2],.iptr [.int .i64 v2],uu,uu,uu,uu,uu,uu,uu,uu],hp := emp }
theorem S101_eq (a0 : Int × Int) (b1 : Int × Int) (v2 : Int) : S101 n a0 b1 v2 =
    (S88 n a0 b1).bind fun r1' =>
    some (wr .i64 (v2 * r1')) := by kernel_rfl
theorem S101_run (xs : pksDen pk101) : S101 n xs.1 xs.2.1 xs.2.2.1 = runG (E101 n) noScope c101 an101 (rtG rk101) (fun _ _ => none) (rtG rk101) (st0 pk101 xs Try.f101.ntmps) := by kernel_rfl
noncomputable def P101 := phiOf pk101 rk101 (fun xs => S101 n xs.1 xs.2.1 xs.2.2.1)
theorem call101 : CallOK Try.prog 101 := callOK_of Try.func101 (by kernel_rfl) (by kernel_rfl)
theorem env101 : EnvOK Try.prog (E101 n) := envOK0 (consPhi_ok (FC88 n) call88 noPhi_ok) rfl rfl
theorem par101 : EnvPar (E101 n) := envPar0 (consPhi_par phiOf_Par1 noPhi_par) rfl
theorem FC101 : FCs Try.prog 101 (P101 n) := phiOf_FCs fun xs r h vs hv => FC.of_runG tabOK eqsOK (env101 n) (par101 n) mixed (fun _ => noScope_ok) Try.func101 (c := c101) (an := an101) (pks := pk101) (rks := rk101) (by kernel_rfl) (by kernel_rfl) hv ((S101_run n xs).symm.trans h)
abbrev R103c101 := Int × Int
abbrev K103c101 := St → Option R103c101
noncomputable def c103c101 : Code := bodyOf Try.f103
noncomputable def an103c101 : Ann := (.s .l (.s (.s .l (.j [0,1,4] .l .l)) (.s .l (.s (.s .l (.j [4,5] (.j [0,1,4,5,6] (.s (.s .l (.j [0,1,4,5,6] .l .l)) (.j [] (.j [0,1,4,5,6] (.s .l (.j [0,1,4,5,6] .l .l)) .l) .l)) .l) .l)) .l))))
def pk103c101 : List PK := [.c (.sl (.pair (.int .i64) (.int .i64))),.f 101 [(.int .i64)]]
def rk103c101 : List RK := [.box (.pair (.int .i64) (.int .i64)) 4]
noncomputable def rt103c101 (st : St) : Option R103c101 := rtG rk103c101 st
noncomputable def E103c101 : Env := { T := tab,phi := (consPhi 101 (fun _ => true) (P101 n) noPhi),eff := fun _ => false,fuel := n.1,hold := n.2 }
noncomputable def kq103c101_3 : K103c101 := run (E103c101 n) (cB (cB (cB (cB c103c101)))) an103c101.snd.snd.snd.snd rt103c101 (fun _ _ => none) rt103c101
noncomputable def xb103c101_5 : Nat → K103c101 := fun j s => bif Nat.beq j 0 then normC [4,5] s (kq103c101_3 n) else (fun _ _ => none) j s
noncomputable def F103c101_6 : (K103c101) → K103c101 := fun K s => run (E103c101 n) (cA (cA (cB (cA (cB (cB (cB c103c101))))))) an103c101.snd.snd.snd.fst.snd.fst.fst (fun s => normC [0,1,4,5,6] s K) (xb103c101_5 n) rt103c101 s
noncomputable def kq103c101_9 (m1 : Nat) : K103c101 := run (E103c101 n) (cB (cB (cA (cA (cB (cA (cB (cB (cB c103c101))))))))) an103c101.snd.snd.snd.fst.snd.fst.fst.snd.snd (fun s => normC [0,1,4,5,6] s (loopN (F103c101_6 n) m1)) (xb103c101_5 n) rt103c101
noncomputable def L103c101_1 (m : Nat) (x0 : LP) (cmp1_0 : Int) (i6 : Int) (v4_0 : Int) (v4_1 : Int) (m5_0 : Int) (m5_1 : Int) : Option R103c101 := loopN (F103c101_6 n) m { tm := [.c (.sl (.pair (.int .i64) (.int .i64)) x0 false),.fn 101 [.iptr [.int .i64 cmp1_0]],uu,uu,.ptr 4 0,.ptr 5 0,.c (.int .i64 i6),uu,uu,uu,uu,uu,uu,uu,uu,uu,uu,uu,uu,uu,uu,uu,uu,uu,uu,uu,uu,uu,uu,uu,uu,uu,uu],hp := (upd (upd emp 5 (.box [.int .i64 m5_0,.int .i64 m5_1])) 4 (.box [.int .i64 v4_0,.int .i64 v4_1])) }
noncomputable def L103c101_2 (m1 : Nat) (x0 : LP) (cmp1_0 : Int) (i6 : Int) (v4_0 : Int) (v4_1 : Int) (m5_0 : Int) (m5_1 : Int) : Option R103c101 := loopN (fun _ => (kq103c101_9 n m1)) n.2 { tm := [.c (.sl (.pair (.int .i64) (.int .i64)) x0 false),.fn 101 [.iptr [.int .i64 cmp1_0]],uu,uu,.ptr 4 0,.ptr 5 0,.c (.int .i64 i6),uu,uu,uu,uu,uu,uu,uu,uu,uu,uu,uu,uu,uu,uu,uu,uu,uu,uu,uu,uu,uu,uu,uu,uu,uu,uu],hp := (upd (upd emp 5 (.box [.int .i64 m5_0,.int .i64 m5_1])) 4 (.box [.int .i64 v4_0,.int .i64 v4_1])) }
theorem L103c101_1_eq (m1 : Nat) (x0 : LP) (cmp1_0 : Int) (i6 : Int) (v4_0 : Int) (v4_1 : Int) (m5_0 : Int) (m5_1 : Int) : L103c101_1 n (m1 + 1) x0 cmp1_0 i6 v4_0 v4_1 m5_0 m5_1 =
    (bif decide (i6 < (x0.length : Int)) then (idx x0 i6).bind fun x2' =>
      (S101 n x2' (m5_0,m5_1) cmp1_0).bind fun r3' =>
      (bif decide (r3' > 0) then (idx x0 i6).bind fun x4' =>
        L103c101_2 n m1 x0 cmp1_0 i6 v4_0 v4_1 x4'.1 x4'.2
      else L103c101_2 n m1 x0 cmp1_0 i6 v4_0 v4_1 m5_0 m5_1)
    else some (m5_0,m5_1)) := by kernel_rfl
theorem L103c101_2_raw (m1 : Nat) (x0 : LP) (cmp1_0 : Int) (i6 : Int) (v4_0 : Int) (v4_1 : Int) (m5_0 : Int) (m5_1 : Int) : (kq103c101_9 n m1) { tm := [.c (.sl (.pair (.int .i64) (.int .i64)) x0 false),.fn 101 [.iptr [.int .i64 cmp1_0]],uu,uu,.ptr 4 0,.ptr 5 0,.c (.int .i64 i6),uu,uu,uu,uu,uu,uu,uu,uu,uu,uu,uu,uu,uu,uu,uu,uu,uu,uu,uu,uu,uu,uu,uu,uu,uu,uu],hp := (upd (upd emp 5 (.box [.int .i64 m5_0,.int .i64 m5_1])) 4 (.box [.int .i64 v4_0,.int .i64 v4_1])) } =
    L103c101_1 n m1 x0 cmp1_0 (wr .i64 (i6 + 1)) v4_0 v4_1 m5_0 m5_1 := by kernel_rfl
noncomputable def S103c101 (x0 : LP) (cp_1_0 : Int) : Option R103c101 := run (E103c101 n) c103c101 an103c101 rt103c101 (fun _ _ => none) rt103c101 { tm := [.c (.sl (.pair (.int .i64) (.int .i64)) x0 false),.fn 101 [.iptr [.int .i64 cp_1_0]],uu,uu,uu,uu,uu,uu,uu,uu,uu,uu,uu,uu,uu,uu,uu,uu,uu,uu,uu,uu,uu,uu,uu,uu,uu,uu,uu,uu,uu,uu,uu],hp := emp }
theorem S103c101_eq (x0 : LP) (cp_1_0 : Int) : S103c101 n x0 cp_1_0 =
    (bif decide ((x0.length : Int) < 1) then none
    else (idx x0 0).bind fun x1' =>
      L103c101_1 n n.1 x0 cp_1_0 1 0 0 x1'.1 x1'.2) := by kernel_rfl
theorem S103c101_run (xs : pksDen pk103c101) : S103c101 n xs.1 xs.2.1.1 = runG (E103c101 n) noScope c103c101 an103c101 (rtG rk103c101) (fun _ _ => none) (rtG rk103c101) (st0 pk103c101 xs Try.f103.ntmps) := by kernel_rfl
noncomputable def P103c101 := phiOf pk103c101 rk103c101 (fun xs => S103c101 n xs.1 xs.2.1.1)
theorem call103 : CallOK Try.prog 103 := callOK_of Try.func103 (by kernel_rfl) (by kernel_rfl)
theorem env103c101 : EnvOK Try.prog (E103c101 n) := envOK0 (consPhi_ok (FC101 n) call101 noPhi_ok) rfl rfl
theorem par103c101 : EnvPar (E103c101 n) := envPar0 (consPhi_par phiOf_Par1 noPhi_par) rfl
theorem FC103c101 : FCs Try.prog 103 (P103c101 n) := phiOf_FCs fun xs r h vs hv => FC.of_runG tabOK eqsOK (env103c101 n) (par103c101 n) mixed (fun _ => noScope_ok) Try.func103 (c := c103c101) (an := an103c101) (pks := pk103c101) (rks := rk103c101) (by kernel_rfl) (by kernel_rfl) hv ((S103c101_run n xs).symm.trans h)
abbrev R102c88 := Int × Int
abbrev K102c88 := St → Option R102c88
noncomputable def c102c88 : Code := bodyOf Try.f102
noncomputable def an102c88 : Ann := (.s .l (.s (.s .l (.j [0,1,4] .l .l)) (.s .l (.s (.s .l (.j [4,5] (.j [0,1,4,5,6] (.s (.s .l (.j [0,1,4,5,6] .l .l)) (.j [] (.j [0,1,4,5,6] (.s .l (.j [0,1,4,5,6] .l .l)) .l) .l)) .l) .l)) .l))))
def pk102c88 : List PK := [.c (.sl (.pair (.int .i64) (.int .i64))),.f 88 []]
def rk102c88 : List RK := [.box (.pair (.int .i64) (.int .i64)) 4]
noncomputable def rt102c88 (st : St) : Option R102c88 := rtG rk102c88 st
noncomputable def E102c88 : Env := { T := tab,phi := (consPhi 88 (fun _ => true) (P88 n) noPhi),eff := fun _ => false,fuel := n.1,hold := n.2 }
noncomputable def kq102c88_3 : K102c88 := run (E102c88 n) (cB (cB (cB (cB c102c88)))) an102c88.snd.snd.snd.snd rt102c88 (fun _ _ => none) rt102c88
noncomputable def xb102c88_5 : Nat → K102c88 := fun j s => bif Nat.beq j 0 then normC [4,5] s (kq102c88_3 n) else (fun _ _ => none) j s
noncomputable def F102c88_6 : (K102c88) → K102c88 := fun K s => run (E102c88 n) (cA (cA (cB (cA (cB (cB (cB c102c88))))))) an102c88.snd.snd.snd.fst.snd.fst.fst (fun s => normC [0,1,4,5,6] s K) (xb102c88_5 n) rt102c88 s
noncomputable def kq102c88_9 (m1 : Nat) : K102c88 := run (E102c88 n) (cB (cB (cA (cA (cB (cA (cB (cB (cB c102c88))))))))) an102c88.snd.snd.snd.fst.snd.fst.fst.snd.snd (fun s => normC [0,1,4,5,6] s (loopN (F102c88_6 n) m1)) (xb102c88_5 n) rt102c88
noncomputable def L102c88_1 (m : Nat) (x0 : LP) (i6 : Int) (v4_0 : Int) (v4_1 : Int) (m5_0 : Int) (m5_1 : Int) : Option R102c88 := loopN (F102c88_6 n) m { tm := [.c (.sl (.pair (.int .i64) (.int .i64)) x0 false),.fn 88 [],uu,uu,.ptr 4 0,.ptr 5 0,.c (.int .i64 i6),uu,uu,uu,uu,uu,uu,uu,uu,uu,uu,uu,uu,uu,uu,uu,uu,uu,uu,uu,uu,uu,uu,uu,uu,uu,uu],hp := (upd (upd emp 5 (.box [.int .i64 m5_0,.int .i64 m5_1])) 4 (.box [.int .i64 v4_0,.int .i64 v4_1])) }
noncomputable def L102c88_2 (m1 : Nat) (x0 : LP) (i6 : Int) (v4_0 : Int) (v4_1 : Int) (m5_0 : Int) (m5_1 : Int) : Option R102c88 := loopN (fun _ => (kq102c88_9 n m1)) n.2 { tm := [.c (.sl (.pair (.int .i64) (.int .i64)) x0 false),.fn 88 [],uu,uu,.ptr 4 0,.ptr 5 0,.c (.int .i64 i6),uu,uu,uu,uu,uu,uu,uu,uu,uu,uu,uu,uu,uu,uu,uu,uu,uu,uu,uu,uu,uu,uu,uu,uu,uu,uu],hp := (upd (upd emp 5 (.box [.int .i64 m5_0,.int .i64 m5_1])) 4 (.box [.int .i64 v4_0,.int .i64 v4_1])) }
theorem L102c88_1_eq (m1 : Nat) (x0 : LP) (i6 : Int) (v4_0 : Int) (v4_1 : Int) (m5_0 : Int) (m5_1 : Int) : L102c88_1 n (m1 + 1) x0 i6 v4_0 v4_1 m5_0 m5_1 =
    (bif decide (i6 < (x0.length : Int)) then (idx x0 i6).bind fun x2' =>
      (S88 n x2' (m5_0,m5_1)).bind fun r3' =>
      (bif decide (r3' < 0) then (idx x0 i6).bind fun x4' =>
        L102c88_2 n m1 x0 i6 v4_0 v4_1 x4'.1 x4'.2
      else L102c88_2 n m1 x0 i6 v4_0 v4_1 m5_0 m5_1)
    else some (m5_0,m5_1)) := by kernel_rfl
theorem L102c88_2_raw (m1 : Nat) (x0 : LP) (i6 : Int) (v4_0 : Int) (v4_1 : Int) (m5_0 : Int) (m5_1 : Int) : (kq102c88_9 n m1) { tm := [.c (.sl (.pair (.int .i64) (.int .i64)) x0 false),.fn 88 [],uu,uu,.ptr 4 0,.ptr 5 0,.c (.int .i64 i6),uu,uu,uu,uu,uu,uu,uu,uu,uu,uu,uu,uu,uu,uu,uu,uu,uu,uu,uu,uu,uu,uu,uu,uu,uu,uu],hp := (upd (upd emp 5 (.box [.int .i64 m5_0,.int .i64 m5_1])) 4 (.box [.int .i64 v4_0,.int .i64 v4_1])) } =
    L102c88_1 n m1 x0 (wr .i64 (i6 + 1)) v4_0 v4_1 m5_0 m5_1 := by kernel_rfl
noncomputable def S102c88 (x0 : LP) : Option R102c88 := run (E102c88 n) c102c88 an102c88 rt102c88 (fun _ _ => none) rt102c88 { tm := [.c (.sl (.pair (.int .i64) (.int .i64)) x0 false),.fn 88 [],uu,uu,uu,uu,uu,uu,uu,uu,uu,uu,uu,uu,uu,uu,uu,uu,uu,uu,uu,uu,uu,uu,uu,uu,uu,uu,uu,uu,uu,uu,uu],hp := emp }
theorem S102c88_eq (x0 : LP) : S102c88 n x0 =
    (bif decide ((x0.length : Int) < 1) then none
    else (idx x0 0).bind fun x1' =>
      L102c88_1 n n.1 x0 1 0 0 x1'.1 x1'.2) := by kernel_rfl
theorem S102c88_run (xs : pksDen pk102c88) : S102c88 n xs.1 = runG (E102c88 n) noScope c102c88 an102c88 (rtG rk102c88) (fun _ _ => none) (rtG rk102c88) (st0 pk102c88 xs Try.f102.ntmps) := by kernel_rfl
noncomputable def P102c88 := phiOf pk102c88 rk102c88 (fun xs => S102c88 n xs.1)
theorem call102 : CallOK Try.prog 102 := callOK_of Try.func102 (by kernel_rfl) (by kernel_rfl)
theorem env102c88 : EnvOK Try.prog (E102c88 n) := envOK0 (consPhi_ok (FC88 n) call88 noPhi_ok) rfl rfl
theorem par102c88 : EnvPar (E102c88 n) := envPar0 (consPhi_par phiOf_Par1 noPhi_par) rfl
theorem FC102c88 : FCs Try.prog 102 (P102c88 n) := phiOf_FCs fun xs r h vs hv => FC.of_runG tabOK eqsOK (env102c88 n) (par102c88 n) mixed (fun _ => noScope_ok) Try.func102 (c := c102c88) (an := an102c88) (pks := pk102c88) (rks := rk102c88) (by kernel_rfl) (by kernel_rfl) hv ((S102c88_run n xs).symm.trans h)
abbrev R103c88 := Int × Int
abbrev K103c88 := St → Option R103c88
noncomputable def c103c88 : Code := bodyOf Try.f103
noncomputable def an103c88 : Ann := (.s .l (.s (.s .l (.j [0,1,4] .l .l)) (.s .l (.s (.s .l (.j [4,5] (.j [0,1,4,5,6] (.s (.s .l (.j [0,1,4,5,6] .l .l)) (.j [] (.j [0,1,4,5,6] (.s .l (.j [0,1,4,5,6] .l .l)) .l) .l)) .l) .l)) .l))))
def pk103c88 : List PK := [.c (.sl (.pair (.int .i64) (.int .i64))),.f 88 []]
def rk103c88 : List RK := [.box (.pair (.int .i64) (.int .i64)) 4]
noncomputable def rt103c88 (st : St) : Option R103c88 := rtG rk103c88 st
noncomputable def E103c88 : Env := { T := tab,phi := (consPhi 88 (fun _ => true) (P88 n) noPhi),eff := fun _ => false,fuel := n.1,hold := n.2 }
noncomputable def kq103c88_3 : K103c88 := run (E103c88 n) (cB (cB (cB (cB c103c88)))) an103c88.snd.snd.snd.snd rt103c88 (fun _ _ => none) rt103c88
noncomputable def xb103c88_5 : Nat → K103c88 := fun j s => bif Nat.beq j 0 then normC [4,5] s (kq103c88_3 n) else (fun _ _ => none) j s
noncomputable def F103c88_6 : (K103c88) → K103c88 := fun K s => run (E103c88 n) (cA (cA (cB (cA (cB (cB (cB c103c88))))))) an103c88.snd.snd.snd.fst.snd.fst.fst (fun s => normC [0,1,4,5,6] s K) (xb103c88_5 n) rt103c88 s
noncomputable def kq103c88_9 (m1 : Nat) : K103c88 := run (E103c88 n) (cB (cB (cA (cA (cB (cA (cB (cB (cB c103c88))))))))) an103c88.snd.snd.snd.fst.snd.fst.fst.snd.snd (fun s => normC [0,1,4,5,6] s (loopN (F103c88_6 n) m1)) (xb103c88_5 n) rt103c88
noncomputable def L103c88_1 (m : Nat) (x0 : LP) (i6 : Int) (v4_0 : Int) (v4_1 : Int) (m5_0 : Int) (m5_1 : Int) : Option R103c88 := loopN (F103c88_6 n) m { tm := [.c (.sl (.pair (.int .i64) (.int .i64)) x0 false),.fn 88 [],uu,uu,.ptr 4 0,.ptr 5 0,.c (.int .i64 i6),uu,uu,uu,uu,uu,uu,uu,uu,uu,uu,uu,uu,uu,uu,uu,uu,uu,uu,uu,uu,uu,uu,uu,uu,uu,uu],hp := (upd (upd emp 5 (.box [.int .i64 m5_0,.int .i64 m5_1])) 4 (.box [.int .i64 v4_0,.int .i64 v4_1])) }
noncomputable def L103c88_2 (m1 : Nat) (x0 : LP) (i6 : Int) (v4_0 : Int) (v4_1 : Int) (m5_0 : Int) (m5_1 : Int) : Option R103c88 := loopN (fun _ => (kq103c88_9 n m1)) n.2 { tm := [.c (.sl (.pair (.int .i64) (.int .i64)) x0 false),.fn 88 [],uu,uu,.ptr 4 0,.ptr 5 0,.c (.int .i64 i6),uu,uu,uu,uu,uu,uu,uu,uu,uu,uu,uu,uu,uu,uu,uu,uu,uu,uu,uu,uu,uu,uu,uu,uu,uu,uu],hp := (upd (upd emp 5 (.box [.int .i64 m5_0,.int .i64 m5_1])) 4 (.box [.int .i64 v4_0,.int .i64 v4_1])) }
theorem L103c88_1_eq (m1 : Nat) (x0 : LP) (i6 : Int) (v4_0 : Int) (v4_1 : Int) (m5_0 : Int) (m5_1 : Int) : L103c88_1 n (m1 + 1) x0 i6 v4_0 v4_1 m5_0 m5_1 =
    (bif decide (i6 < (x0.length : Int)) then (idx x0 i6).bind fun x2' =>
      (S88 n x2' (m5_0,m5_1)).bind fun r3' =>
      (bif decide (r3' > 0) then (idx x0 i6).bind fun x4' =>
        L103c88_2 n m1 x0 i6 v4_0 v4_1 x4'.1 x4'.2
      else L103c88_2 n m1 x0 i6 v4_0 v4_1 m5_0 m5_1)
    else some (m5_0,m5_1)) := by kernel_rfl
theorem L103c88_2_raw (m1 : Nat) (x0 : LP) (i6 : Int) (v4_0 : Int) (v4_1 : Int) (m5_0 : Int) (m5_1 : Int) : (kq103c88_9 n m1) { tm := [.c (.sl (.pair (.int .i64) (.int .i64)) x0 false),.fn 88 [],uu,uu,.ptr 4 0,.ptr 5 0,.c (.int .i64 i6),uu,uu,uu,uu,uu,uu,uu,uu,uu,uu,uu,uu,uu,uu,uu,uu,uu,uu,uu,uu,uu,uu,uu,uu,uu,uu],hp := (upd (upd emp 5 (.box [.int .i64 m5_0,.int .i64 m5_1])) 4 (.box [.int .i64 v4_0,.int .i64 v4_1])) } =
    L103c88_1 n m1 x0 (wr .i64 (i6 + 1)) v4_0 v4_1 m5_0 m5_1 := by kernel_rfl
noncomputable def S103c88 (x0 : LP) : Option R103c88 := run (E103c88 n) c103c88 an103c88 rt103c88 (fun _ _ => none) rt103c88 { tm := [.c (.sl (.pair (.int .i64) (.int .i64)) x0 false),.fn 88 [],uu,uu,uu,uu,uu,uu,uu,uu,uu,uu,uu,uu,uu,uu,uu,uu,uu,uu,uu,uu,uu,uu,uu,uu,uu,uu,uu,uu,uu,uu,uu],hp := emp }
theorem S103c88_eq (x0 : LP) : S103c88 n x0 =
    (bif decide ((x0.length : Int) < 1) then none
    else (idx x0 0).bind fun x1' =>
      L103c88_1 n n.1 x0 1 0 0 x1'.1 x1'.2) := by kernel_rfl
theorem S103c88_run (xs : pksDen pk103c88) : S103c88 n xs.1 = runG (E103c88 n) noScope c103c88 an103c88 (rtG rk103c88) (fun _ _ => none) (rtG rk103c88) (st0 pk103c88 xs Try.f103.ntmps) := by kernel_rfl
noncomputable def P103c88 := phiOf pk103c88 rk103c88 (fun xs => S103c88 n xs.1)
theorem env103c88 : EnvOK Try.prog (E103c88 n) := envOK0 (consPhi_ok (FC88 n) call88 noPhi_ok) rfl rfl
theorem par103c88 : EnvPar (E103c88 n) := envPar0 (consPhi_par phiOf_Par1 noPhi_par) rfl
theorem FC103c88 : FCs Try.prog 103 (P103c88 n) := phiOf_FCs fun xs r h vs hv => FC.of_runG tabOK eqsOK (env103c88 n) (par103c88 n) mixed (fun _ => noScope_ok) Try.func103 (c := c103c88) (an := an103c88) (pks := pk103c88) (rks := rk103c88) (by kernel_rfl) (by kernel_rfl) hv ((S103c88_run n xs).symm.trans h)
abbrev R73 := (Int × Int) × Int
abbrev K73 := St → Option R73
noncomputable def c73 : Code := bodyOf Try.f73
noncomputable def an73 : Ann := (.s .l (.s .l (.s (.j [0,1,5,6] (.s .l (.j [0,1,5,6] .l (.s .l (.j [0,1,5,6] .l .l)))) .l) (.s .l (.s .l (.s (.s .l (.j [0,1,6,9,10] (.s (.s .l (.j [6,9,10] (.j [0,1,6,9,10,38,39] (.s .l (.s (.j [0,1,6,9,10,38,39] .l .l) (.s (.j [0,1,6,9,10,38,39] (.s .l (.s .l (.s (.s .l (.j [0,1,6,9,10,12,38,39] (.j [0,1,6,9,10,11,12,13,38,39] (.s (.s .l (.j [0,1,6,9,10,11,12,13,38,39] .l .l)) (.s (.j [0,1,6,9,10,11,12,13,38,39] .l .l) .l)) .l) .l)) .l))) .l) .l))) .l) .l)) .l) .l)) (.s (.s .l (.j [6,9,10] (.j [0,1,6,9,10,14] (.s (.s .l (.j [0,1,6,9,10,14] .l .l)) (.s (.j [0,1,6,9,10,14] (.s .l (.s (.s .l (.j [0,1,6,9,10,14,15] (.j [0,1,6,9,10,14,15,77,78] (.s .l (.s (.j [0,1,6,9,10,14,15,77,78] .l .l) (.s (.j [0,1,6,9,10,14,15,77,78] .l .l) .l))) .l) .l)) .l)) .l) .l)) .l) .l)) .l)))))))
def pk73 : List PK := [.c (.sl (.pair (.int .i64) (.int .i64))),.c (.int .i64),.c (.int .i64)]
def rk73 : List RK := [.box (.pair (.int .i64) (.int .i64)) 6,.c (.int .i64) 7]
noncomputable def rt73 (st : St) : Option R73 := rtG rk73 st
noncomputable def E73 : Env := { T := tab,phi := (consPhi 24 (fun _ => true) (P24 n) (consPhi 70 (fun _ => true) (P70 n) (consPhi 102 (isFns [none,some 88]) (P102c88 n) (consPhi 103 (isFns [none,some 101]) (P103c101 n) (consPhi 103 (isFns [none,some 88]) (P103c88 n) noPhi))))),eff := fun _ => false,fuel := n.1,hold := n.2 }
noncomputable def kq73_6 : K73 := run (E73 n) (cB (cB (cB (cB (cB (cB c73)))))) an73.snd.snd.snd.snd.snd.snd rt73 (fun _ _ => none) rt73
noncomputable def kc73_7 : K73 := fun s => normC [0,1,6,9,10] s (kq73_6 n)
noncomputable def kq73_8 : K73 := run (E73 n) (cB (cA (cB (cA (cB (cB (cB (cB (cB c73))))))))) an73.snd.snd.snd.snd.snd.fst.snd.fst.snd (kc73_7 n) (fun _ _ => none) rt73
noncomputable def xb73_10 : Nat → K73 := fun j s => bif Nat.beq j 1 then normC [6,9,10] s (kq73_8 n) else (fun _ _ => none) j s
noncomputable def F73_11 : (K73) → K73 := fun K s => run (E73 n) (cA (cA (cB (cA (cA (cB (cA (cB (cB (cB (cB (cB c73)))))))))))) an73.snd.snd.snd.snd.snd.fst.snd.fst.fst.snd.fst.fst (fun s => normC [0,1,6,9,10,38,39] s K) (xb73_10 n) rt73 s
noncomputable def kq73_12 : K73 := run (E73 n) (cB (cB (cB (cB (cB (cB (cB c73))))))) an73.snd.snd.snd.snd.snd.snd.snd rt73 (fun _ _ => none) rt73
noncomputable def xb73_14 : Nat → K73 := fun j s => bif Nat.beq j 5 then normC [6,9,10] s (kq73_12 n) else (fun _ _ => none) j s
noncomputable def F73_15 : (K73) → K73 := fun K s => run (E73 n) (cA (cA (cB (cA (cB (cB (cB (cB (cB (cB c73)))))))))) an73.snd.snd.snd.snd.snd.snd.fst.snd.fst.fst (fun s => normC [0,1,6,9,10,14] s K) (xb73_14 n) rt73 s
noncomputable def kq73_18 (m1 : Nat) : K73 := run (E73 n) (cB (cB (cB (cA (cA (cB (cA (cA (cB (cA (cB (cB (cB (cB (cB c73))))))))))))))) an73.snd.snd.snd.snd.snd.fst.snd.fst.fst.snd.fst.fst.snd.snd.snd (fun s => normC [0,1,6,9,10,38,39] s (loopN (F73_11 n) m1)) (xb73_10 n) rt73
noncomputable def kc73_19 (m1 : Nat) : K73 := fun s => normC [0,1,6,9,10,38,39] s (kq73_18 n m1)
noncomputable def xb73_20 (m1 : Nat) : Nat → K73 := fun j s => bif Nat.beq j 2 then normC [0,1,6,9,10,38,39] s (kq73_18 n m1) else (xb73_10 n) j s
noncomputable def kq73_21 (m1 : Nat) : K73 := run (E73 n) (cB (cB (cB (cA (cA (cB (cB (cA (cA (cB (cA (cA (cB (cA (cB (cB (cB (cB (cB c73))))))))))))))))))) an73.snd.snd.snd.snd.snd.fst.snd.fst.fst.snd.fst.fst.snd.snd.fst.fst.snd.snd.snd (kc73_19 n m1) (xb73_20 n m1) rt73
noncomputable def xb73_23 (m1 : Nat) : Nat → K73 := fun j s => bif Nat.beq j 3 then normC [0,1,6,9,10,12,38,39] s (kq73_21 n m1) else (xb73_20 n m1) j s
noncomputable def F73_24 (m1 : Nat) : (K73) → K73 := fun K s => run (E73 n) (cA (cA (cB (cA (cB (cB (cA (cA (cB (cB (cA (cA (cB (cA (cA (cB (cA (cB (cB (cB (cB (cB c73)))))))))))))))))))))) an73.snd.snd.snd.snd.snd.fst.snd.fst.fst.snd.fst.fst.snd.snd.fst.fst.snd.snd.fst.snd.fst.fst (fun s => normC [0,1,6,9,10,11,12,13,38,39] s K) (xb73_23 n m1) rt73 s
noncomputable def kq73_27 (m1 : Nat) : K73 := run (E73 n) (cB (cB (cA (cA (cB (cA (cB (cB (cB (cB (cB (cB c73)))))))))))) an73.snd.snd.snd.snd.snd.snd.fst.snd.fst.fst.snd.snd (fun s => normC [0,1,6,9,10,14] s (loopN (F73_15 n) m1)) (xb73_14 n) rt73
noncomputable def kc73_28 (m1 : Nat) : K73 := fun s => normC [0,1,6,9,10,14] s (kq73_27 n m1)
noncomputable def xb73_29 (m1 : Nat) : Nat → K73 := fun j s => bif Nat.beq j 6 then normC [0,1,6,9,10,14] s (kq73_27 n m1) else (xb73_14 n) j s
noncomputable def kq73_30 (m1 : Nat) : K73 := run (E73 n) (cB (cB (cA (cA (cB (cA (cA (cB (cA (cB (cB (cB (cB (cB (cB c73))))))))))))))) an73.snd.snd.snd.snd.snd.snd.fst.snd.fst.fst.snd.fst.fst.snd.snd (kc73_28 n m1) (xb73_29 n m1) rt73
noncomputable def xb73_32 (m1 : Nat) : Nat → K73 := fun j s => bif Nat.beq j 7 then normC [0,1,6,9,10,14,15] s (kq73_30 n m1) else (xb73_29 n m1) j s
noncomputable def F73_33 (m1 : Nat) : (K73) → K73 := fun K s => run (E73 n) (cA (cA (cB (cA (cB (cA (cA (cB (cA (cA (cB (cA (cB (cB (cB (cB (cB (cB c73)))))))))))))))))) an73.snd.snd.snd.snd.snd.snd.fst.snd.fst.fst.snd.fst.fst.snd.fst.snd.fst.fst (fun s => normC [0,1,6,9,10,14,15,77,78] s K) (xb73_32 n m1) rt73 s
noncomputable def L73_1 (m : Nat) (l0 : LP) (i1 : Int) (v38 : Int) (v39 : Int) (v6_0 : Int) (v6_1 : Int) (outer9 : LP) (v10 : Int) : Option R73 := loopN (F73_11 n) m { tm := [.c (.sl (.pair (.int .i64) (.int .i64)) l0 false),.c (.int .i64 i1),uu,uu,uu,uu,.ptr 6 0,uu,uu,.own 9 none false,.fn 101 [.ptr 10 0],uu,uu,uu,uu,uu,uu,uu,uu,uu,uu,uu,uu,uu,uu,uu,uu,uu,uu,uu,uu,uu,uu,uu,uu,uu,uu,uu,.c (.int .i64 v38),.c (.int .i64 v39),uu,uu,uu,uu,uu,uu,uu,uu,uu,uu,uu,uu,uu,uu,uu,uu,uu,uu,uu,uu,uu,uu,uu,uu,uu,uu,uu,uu,uu,uu,uu,uu,uu,uu,uu,uu,uu,uu,uu,uu,uu,uu,uu,uu,uu,uu,uu,uu,uu,uu,uu,uu,uu,uu,uu,uu,uu,uu,uu,uu,uu],hp := (upd (upd (upd emp 10 (.box [.int .i64 v10])) 9 (.arr (.pair (.int .i64) (.int .i64)) outer9 true)) 6 (.box [.int .i64 v6_0,.int .i64 v6_1])) }
noncomputable def L73_2 (m : Nat) (l0 : LP) (i1 : Int) (b14 : Int) (v6_0 : Int) (v6_1 : Int) (outer9 : LP) (v10 : Int) : Option R73 := loopN (F73_15 n) m { tm := [.c (.sl (.pair (.int .i64) (.int .i64)) l0 false),.c (.int .i64 i1),uu,uu,uu,uu,.ptr 6 0,uu,uu,.own 9 none false,.fn 101 [.ptr 10 0],uu,uu,uu,.c (.int .i64 b14),uu,uu,uu,uu,uu,uu,uu,uu,uu,uu,uu,uu,uu,uu,uu,uu,uu,uu,uu,uu,uu,uu,uu,uu,uu,uu,uu,uu,uu,uu,uu,uu,uu,uu,uu,uu,uu,uu,uu,uu,uu,uu,uu,uu,uu,uu,uu,uu,uu,uu,uu,uu,uu,uu,uu,uu,uu,uu,uu,uu,uu,uu,uu,uu,uu,uu,uu,uu,uu,uu,uu,uu,uu,uu,uu,uu,uu,uu,uu,uu,uu,uu,uu,uu,uu,uu],hp := (upd (upd (upd emp 10 (.box [.int .i64 v10])) 9 (.arr (.pair (.int .i64) (.int .i64)) outer9 true)) 6 (.box [.int .i64 v6_0,.int .i64 v6_1])) }
noncomputable def L73_3 (m1 : Nat) (m : Nat) (l0 : LP) (i1 : Int) (a11 : Int) (b13 : Int) (v38 : Int) (v39 : Int) (v6_0 : Int) (v6_1 : Int) (outer9 : LP) (v10 : Int) (inner12 : LP) : Option R73 := loopN (F73_24 n m1) m { tm := [.c (.sl (.pair (.int .i64) (.int .i64)) l0 false),.c (.int .i64 i1),uu,uu,uu,uu,.ptr 6 0,uu,uu,.own 9 none false,.fn 101 [.ptr 10 0],.c (.int .i64 a11),.own 12 none false,.c (.int .i64 b13),uu,uu,uu,uu,uu,uu,uu,uu,uu,uu,uu,uu,uu,uu,uu,uu,uu,uu,uu,uu,uu,uu,uu,uu,.c (.int .i64 v38),.c (.int .i64 v39),uu,uu,uu,uu,uu,uu,uu,uu,uu,uu,uu,uu,uu,uu,uu,uu,uu,uu,uu,uu,uu,uu,uu,uu,uu,uu,uu,uu,uu,uu,uu,uu,uu,uu,uu,uu,uu,uu,uu,uu,uu,uu,uu,uu,uu,uu,uu,uu,uu,uu,uu,uu,uu,uu,uu,uu,uu,uu,uu,uu,uu],hp := (upd (upd (upd (upd emp 12 (.arr (.pair (.int .i64) (.int .i64)) inner12 true)) 10 (.box [.int .i64 v10])) 9 (.arr (.pair (.int .i64) (.int .i64)) outer9 true)) 6 (.box [.int .i64 v6_0,.int .i64 v6_1])) }
noncomputable def L73_4 (m1 : Nat) (m : Nat) (l0 : LP) (i1 : Int) (b14 : Int) (v77 : Int) (v78 : Int) (v6_0 : Int) (v6_1 : Int) (outer9 : LP) (v10 : Int) (inner15 : LP) : Option R73 := loopN (F73_33 n m1) m { tm := [.c (.sl (.pair (.int .i64) (.int .i64)) l0 false),.c (.int .i64 i1),uu,uu,uu,uu,.ptr 6 0,uu,uu,.own 9 none false,.fn 101 [.ptr 10 0],uu,uu,uu,.c (.int .i64 b14),.own 15 none false,uu,uu,uu,uu,uu,uu,uu,uu,uu,uu,uu,uu,uu,uu,uu,uu,uu,uu,uu,uu,uu,uu,uu,uu,uu,uu,uu,uu,uu,uu,uu,uu,uu,uu,uu,uu,uu,uu,uu,uu,uu,uu,uu,uu,uu,uu,uu,uu,uu,uu,uu,uu,uu,uu,uu,uu,uu,uu,uu,uu,uu,.c (.int .i64 v77),.c (.int .i64 v78),uu,uu,uu,uu,uu,uu,uu,uu,uu,uu,uu,uu,uu,uu,uu,uu,uu,uu,uu,uu,uu,uu],hp := (upd (upd (upd (upd emp 15 (.arr (.pair (.int .i64) (.int .i64)) inner15 true)) 10 (.box [.int .i64 v10])) 9 (.arr (.pair (.int .i64) (.int .i64)) outer9 true)) 6 (.box [.int .i64 v6_0,.int .i64 v6_1])) }
theorem L73_1_eq (m1 : Nat) (l0 : LP) (i1 : Int) (v38 : Int) (v39 : Int) (v6_0 : Int) (v6_1 : Int) (outer9 : LP) (v10 : Int) : L73_1 n (m1 + 1) l0 i1 v38 v39 v6_0 v6_1 outer9 v10 =
    (bif decide (v39 < v38) then L73_3 n m1 n.1 l0 i1 v39 i1 v38 v39 v6_0 v6_1 outer9 v10 []
    else (S103c101 n outer9 v10).bind fun r3' =>
      some (r3',0)) := by kernel_rfl
theorem L73_2_eq (m1 : Nat) (l0 : LP) (i1 : Int) (b14 : Int) (v6_0 : Int) (v6_1 : Int) (outer9 : LP) (v10 : Int) : L73_2 n (m1 + 1) l0 i1 b14 v6_0 v6_1 outer9 v10 =
    (bif decide (b14 < (l0.length : Int)) then L73_4 n m1 n.1 l0 i1 b14 (wr .i64 (i1 + 1)) 0 v6_0 v6_1 outer9 v10 []
    else (S103c101 n outer9 v10).bind fun r4' =>
      some (r4',0)) := by kernel_rfl
theorem L73_3_eq (m1 m2 : Nat) (l0 : LP) (i1 : Int) (a11 : Int) (b13 : Int) (v38 : Int) (v39 : Int) (v6_0 : Int) (v6_1 : Int) (outer9 : LP) (v10 : Int) (inner12 : LP) : L73_3 n m1 (m2 + 1) l0 i1 a11 b13 v38 v39 v6_0 v6_1 outer9 v10 inner12 =
    (bif decide (b13 < (l0.length : Int)) then (bif bounds (some a11) (some (wr .i64 (b13 + 1))) (some (wr .i64 (b13 + 1))) l0.length then (S70 n ((l0.take (Int.toNat (wr .i64 (b13 + 1)))).drop (Int.toNat a11))).bind fun r5' =>
        (bif decide (inner12.length + [r5'].length ≤ lim) then L73_3 n m1 m2 l0 i1 a11 (wr .i64 (b13 + 1)) v38 v39 v6_0 v6_1 outer9 v10 (inner12 ++ [r5'])
        else none)
      else none)
    else (S102c88 n inner12).bind fun r6' =>
      (bif decide (outer9.length + [r6'].length ≤ lim) then L73_1 n m1 l0 i1 v38 (wr .i64 (v39 + 1)) v6_0 v6_1 (outer9 ++ [r6']) v10
      else none)) := by kernel_rfl
theorem L73_4_eq (m1 m2 : Nat) (l0 : LP) (i1 : Int) (b14 : Int) (v77 : Int) (v78 : Int) (v6_0 : Int) (v6_1 : Int) (outer9 : LP) (v10 : Int) (inner15 : LP) : L73_4 n m1 (m2 + 1) l0 i1 b14 v77 v78 v6_0 v6_1 outer9 v10 inner15 =
    (bif decide (v78 < v77) then (bif bounds (some v78) (some (wr .i64 (b14 + 1))) (some (wr .i64 (b14 + 1))) l0.length then (S70 n ((l0.take (Int.toNat (wr .i64 (b14 + 1)))).drop (Int.toNat v78))).bind fun r7' =>
        (bif decide (inner15.length + [r7'].length ≤ lim) then L73_4 n m1 m2 l0 i1 b14 v77 (wr .i64 (v78 + 1)) v6_0 v6_1 outer9 v10 (inner15 ++ [r7'])
        else none)
      else none)
    else (S103c88 n inner15).bind fun r8' =>
      (bif decide (outer9.length + [r8'].length ≤ lim) then L73_2 n m1 l0 i1 (wr .i64 (b14 + 1)) v6_0 v6_1 (outer9 ++ [r8']) v10
      else none)) := by kernel_rfl
noncomputable def S73 (l0 : LP) (i1 : Int) (sign2 : Int) : Option R73 := run (E73 n) c73 an73 rt73 (fun _ _ => none) rt73 { tm := [.c (.sl (.pair (.int .i64) (.int .i64)) l0 false),.c (.int .i64 i1),.c (.int .i64 sign2),uu,uu,uu,uu,uu,uu,uu,uu,uu,uu,uu,uu,uu,uu,uu,uu,uu,uu,uu,uu,uu,uu,uu,uu,uu,uu,uu,uu,uu,uu,uu,uu,uu,uu,uu,uu,uu,uu,uu,uu,uu,uu,uu,uu,uu,uu,uu,uu,uu,uu,uu,uu,uu,uu,uu,uu,uu,uu,uu,uu,uu,uu,uu,uu,uu,uu,uu,uu,uu,uu,uu,uu,uu,uu,uu,uu,uu,uu,uu,uu,uu,uu,uu,uu,uu,uu,uu,uu,uu,uu,uu,uu,uu,uu,uu,uu,uu,uu],hp := emp }
theorem S73_eq (l0 : LP) (i1 : Int) (sign2 : Int) : S73 n l0 i1 sign2 =
    (S24 n l0).bind fun r1' =>
    (bif (r1' != 0) then some ((0,0),r1')
    else ((bif (decide (i1 < 0) == false) then some (decide (i1 ≥ (l0.length : Int)))
        else some true)).bind fun b2' =>
      (bif b2' then some ((0,0),2)
      else (bif decide (sign2 > 0) then L73_1 n n.1 l0 i1 (wr .i64 (i1 + 1)) 0 0 0 [] sign2
        else L73_2 n n.1 l0 i1 i1 0 0 [] sign2))) := by kernel_rfl
theorem S73_run (xs : pksDen pk73) : S73 n xs.1 xs.2.1 xs.2.2.1 = runG (E73 n) noScope c73 an73 (rtG rk73) (fun _ _ => none) (rtG rk73) (st0 pk73 xs Try.f73.ntmps) := by kernel_rfl
noncomputable def P73 := phiOf pk73 rk73 (fun xs => S73 n xs.1 xs.2.1 xs.2.2.1)
theorem call73 : CallOK Try.prog 73 := callOK_of Try.func73 (by kernel_rfl) (by kernel_rfl)
theorem env73 : EnvOK Try.prog (E73 n) := envOK0 (consPhi_ok (FC24 n) call24 (consPhi_ok (FC70 n) call70 (consPhi_ok (FC102c88 n) call102 (consPhi_ok (FC103c101 n) call103 (consPhi_ok (FC103c88 n) call103 noPhi_ok))))) rfl rfl
theorem par73 : EnvPar (E73 n) := envPar0 (consPhi_par phiOf_Par1 (consPhi_par phiOf_Par1 (consPhi_par phiOf_Par1 (consPhi_par phiOf_Par1 (consPhi_par phiOf_Par1 noPhi_par))))) rfl
theorem FC73 : FCs Try.prog 73 (P73 n) := phiOf_FCs fun xs r h vs hv => FC.of_runG tabOK eqsOK (env73 n) (par73 n) mixed (fun _ => noScope_ok) Try.func73 (c := c73) (an := an73) (pks := pk73) (rks := rk73) (by kernel_rfl) (by kernel_rfl) hv ((S73_run n xs).symm.trans h)
abbrev R26 := (Int × Int) × Int
noncomputable def c26 : Code := bodyOf Try.f26
noncomputable def an26 : Ann := .l
def pk26 : List PK := [.c (.sl (.pair (.int .i64) (.int .i64))),.c (.int .i64)]
def rk26 : List RK := [.box (.pair (.int .i64) (.int .i64)) 4,.c (.int .i64) 5]
noncomputable def rt26 (st : St) : Option R26 := rtG rk26 st
noncomputable def E26 : Env := { T := tab,phi := (consPhi 73 (fun _ => true) (P73 n) noPhi),eff := fun _ => false,fuel := n.1,hold := n.2 }
noncomputable def S26 (l0 : LP) (i1 : Int) : Option R26 := run (E26 n) c26 an26 rt26 (fun _ _ => none) rt26 { tm := [.c (.sl (.pair (.int .i64) (.int .i64)) l0 false),.c (.int .i64 i1),uu,uu,uu,uu,uu,uu,uu,uu,uu],hp := emp }
theorem S26_eq (l0 : LP) (i1 : Int) : S26 n l0 i1 =
    (S73 n l0 i1 1).bind fun r1' =>
    some (r1'.1,r1'.2) := by kernel_rfl
theorem S26_run (xs : pksDen pk26) : S26 n xs.1 xs.2.1 = runG (E26 n) noScope c26 an26 (rtG rk26) (fun _ _ => none) (rtG rk26) (st0 pk26 xs Try.f26.ntmps) := by kernel_rfl
noncomputable def P26 := phiOf pk26 rk26 (fun xs => S26 n xs.1 xs.2.1)
theorem call26 : CallOK Try.prog 26 := callOK_of Try.func26 (by kernel_rfl) (by kernel_rfl)
theorem env26 : EnvOK Try.prog (E26 n) := envOK0 (consPhi_ok (FC73 n) call73 noPhi_ok) rfl rfl
theorem par26 : EnvPar (E26 n) := envPar0 (consPhi_par phiOf_Par1 noPhi_par) rfl
theorem FC26 : FCs Try.prog 26 (P26 n) := phiOf_FCs fun xs r h vs hv => FC.of_runG tabOK eqsOK (env26 n) (par26 n) mixed (fun _ => noScope_ok) Try.func26 (c := c26) (an := an26) (pks := pk26) (rks := rk26) (by kernel_rfl) (by kernel_rfl) hv ((S26_run n xs).symm.trans h)
abbrev R28 := (Int × Int) × Int
noncomputable def c28 : Code := bodyOf Try.f28
noncomputable def an28 : Ann := .l
def pk28 : List PK := [.c (.sl (.pair (.int .i64) (.int .i64))),.c (.int .i64)]
def rk28 : List RK := [.box (.pair (.int .i64) (.int .i64)) 4,.c (.int .i64) 5]
noncomputable def rt28 (st : St) : Option R28 := rtG rk28 st
noncomputable def E28 : Env := { T := tab,phi := (consPhi 73 (fun _ => true) (P73 n) noPhi),eff := fun _ => false,fuel := n.1,hold := n.2 }
noncomputable def S28 (l0 : LP) (i1 : Int) : Option R28 := run (E28 n) c28 an28 rt28 (fun _ _ => none) rt28 { tm := [.c (.sl (.pair (.int .i64) (.int .i64)) l0 false),.c (.int .i64 i1),uu,uu,uu,uu,uu,uu,uu,uu,uu],hp := emp }
theorem S28_eq (l0 : LP) (i1 : Int) : S28 n l0 i1 =
    (S73 n l0 i1 (-1)).bind fun r1' =>
    some (r1'.1,r1'.2) := by kernel_rfl
theorem S28_run (xs : pksDen pk28) : S28 n xs.1 xs.2.1 = runG (E28 n) noScope c28 an28 (rtG rk28) (fun _ _ => none) (rtG rk28) (st0 pk28 xs Try.f28.ntmps) := by kernel_rfl
noncomputable def P28 := phiOf pk28 rk28 (fun xs => S28 n xs.1 xs.2.1)
theorem call28 : CallOK Try.prog 28 := callOK_of Try.func28 (by kernel_rfl) (by kernel_rfl)
theorem env28 : EnvOK Try.prog (E28 n) := envOK0 (consPhi_ok (FC73 n) call73 noPhi_ok) rfl rfl
theorem par28 : EnvPar (E28 n) := envPar0 (consPhi_par phiOf_Par1 noPhi_par) rfl
theorem FC28 : FCs Try.prog 28 (P28 n) := phiOf_FCs fun xs r h vs hv => FC.of_runG tabOK eqsOK (env28 n) (par28 n) mixed (fun _ => noScope_ok) Try.func28 (c := c28) (an := an28) (pks := pk28) (rks := rk28) (by kernel_rfl) (by kernel_rfl) hv ((S28_run n xs).symm.trans h)
abbrev R83 := LP
abbrev K83 := St → Option R83
noncomputable def c83 : Code := bodyOf Try.f83
noncomputable def an83 : Ann := (.s .l (.s .l (.s .l (.s (.s .l (.j [6] (.j [1,5,6,11,12,13] (.s .l (.s (.j [1,5,6,11,12,13] .l .l) (.s (.j [1,5,6,11,12,13] .l .l) .l))) .l) .l)) .l))))
def pk83 : List PK := [.c (.sl (.pair (.int .i64) (.int .i64))),.c (.sl (.pair (.int .i64) (.int .i64)))]
def rk83 : List RK := [.own (.pair (.int .i64) (.int .i64)) 4]
noncomputable def rt83 (st : St) : Option R83 := rtG rk83 st
noncomputable def E83 : Env := { T := tab,phi := (consPhi 80 (fun _ => true) (P80 n) noPhi),eff := fun _ => false,fuel := n.1,hold := n.2 }
noncomputable def kq83_1 : K83 := run (E83 n) (cB (cB (cB (cB c83)))) an83.snd.snd.snd.snd rt83 (fun _ _ => none) rt83
noncomputable def xb83_3 : Nat → K83 := fun j s => bif Nat.beq j 0 then normC [6] s (kq83_1 n) else (fun _ _ => none) j s
noncomputable def F83_4 : (K83) → K83 := fun K s => run (E83 n) (cA (cA (cB (cA (cB (cB (cB c83))))))) an83.snd.snd.snd.fst.snd.fst.fst (fun s => normC [1,5,6,11,12,13] s K) (xb83_3 n) rt83 s
noncomputable def L83_1 (m : Nat) (values1 : LP) (v11 : LP) (v12 : Int) (v13 : Int) (now5_0 : Int) (now5_1 : Int) (out6 : LP) : Option R83 := loopN (F83_4 n) m { tm := [uu,.c (.sl (.pair (.int .i64) (.int .i64)) values1 false),uu,uu,uu,.ptr 5 0,.own 6 none false,uu,uu,uu,uu,.c (.sl (.pair (.int .i64) (.int .i64)) v11 false),.c (.int .i64 v12),.c (.int .i64 v13),uu,uu,uu,uu,uu,uu,uu,uu,uu,uu,uu,uu,uu,uu,uu,uu,uu,uu,uu,uu,uu,uu,uu,uu,uu,uu,uu,uu,uu],hp := (upd (upd emp 6 (.arr (.pair (.int .i64) (.int .i64)) out6 true)) 5 (.box [.int .i64 now5_0,.int .i64 now5_1])) }
theorem L83_1_eq (m1 : Nat) (values1 : LP) (v11 : LP) (v12 : Int) (v13 : Int) (now5_0 : Int) (now5_1 : Int) (out6 : LP) : L83_1 n (m1 + 1) values1 v11 v12 v13 now5_0 now5_1 out6 =
    (bif decide (v13 < v12) then (idx v11 v13).bind fun x1' =>
      (idx values1 v13).bind fun x2' =>
      (S80 n (now5_0,now5_1) (wr .i64 (x1'.2 * (wr .i64 ((wr .i64 (x1'.1 * x2'.2)) - x2'.1)))) x2'.2).bind fun r3' =>
      (bif decide (out6.length + [r3'].length ≤ lim) then L83_1 n m1 values1 v11 v12 (wr .i64 (v13 + 1)) r3'.1 r3'.2 (out6 ++ [r3'])
      else none)
    else some out6) := by kernel_rfl
noncomputable def S83 (l0 : LP) (values1 : LP) : Option R83 := run (E83 n) c83 an83 rt83 (fun _ _ => none) rt83 { tm := [.c (.sl (.pair (.int .i64) (.int .i64)) l0 false),.c (.sl (.pair (.int .i64) (.int .i64)) values1 false),uu,uu,uu,uu,uu,uu,uu,uu,uu,uu,uu,uu,uu,uu,uu,uu,uu,uu,uu,uu,uu,uu,uu,uu,uu,uu,uu,uu,uu,uu,uu,uu,uu,uu,uu,uu,uu,uu,uu,uu,uu],hp := emp }
theorem S83_eq (l0 : LP) (values1 : LP) : S83 n l0 values1 =
    L83_1 n n.1 values1 l0 (l0.length : Int) 0 0 1 [] := by kernel_rfl
theorem S83_run (xs : pksDen pk83) : S83 n xs.1 xs.2.1 = runG (E83 n) noScope c83 an83 (rtG rk83) (fun _ _ => none) (rtG rk83) (st0 pk83 xs Try.f83.ntmps) := by kernel_rfl
noncomputable def P83 := phiOf pk83 rk83 (fun xs => S83 n xs.1 xs.2.1)
theorem call83 : CallOK Try.prog 83 := callOK_of Try.func83 (by kernel_rfl) (by kernel_rfl)
theorem env83 : EnvOK Try.prog (E83 n) := envOK0 (consPhi_ok (FC80 n) call80 noPhi_ok) rfl rfl
theorem par83 : EnvPar (E83 n) := envPar0 (consPhi_par phiOf_Par1 noPhi_par) rfl
theorem FC83 : FCs Try.prog 83 (P83 n) := phiOf_FCs fun xs r h vs hv => FC.of_runG tabOK eqsOK (env83 n) (par83 n) mixed (fun _ => noScope_ok) Try.func83 (c := c83) (an := an83) (pks := pk83) (rks := rk83) (by kernel_rfl) (by kernel_rfl) hv ((S83_run n xs).symm.trans h)
abbrev R37 := LP × Int
noncomputable def c37 : Code := bodyOf Try.f37
noncomputable def an37 : Ann := (.s .l (.s (.s .l (.s .l (.j [0] .l .l))) .l))
def pk37 : List PK := [.c (.sl (.pair (.int .i64) (.int .i64)))]
def rk37 : List RK := [.own (.pair (.int .i64) (.int .i64)) 2,.c (.int .i64) 3]
noncomputable def rt37 (st : St) : Option R37 := rtG rk37 st
noncomputable def E37 : Env := { T := tab,phi := (consPhi 24 (fun _ => true) (P24 n) (consPhi 77 (fun _ => true) (P77 n) (consPhi 83 (fun _ => true) (P83 n) noPhi))),eff := fun _ => false,fuel := n.1,hold := n.2 }
noncomputable def S37 (l0 : LP) : Option R37 := run (E37 n) c37 an37 rt37 (fun _ _ => none) rt37 { tm := [.c (.sl (.pair (.int .i64) (.int .i64)) l0 false),uu,uu,uu,uu,uu,uu,uu,uu,uu,uu,uu,uu,uu],hp := emp }
theorem S37_eq (l0 : LP) : S37 n l0 =
    (S24 n l0).bind fun r1' =>
    (bif (r1' != 0) then some ([],r1')
    else (S77 n l0).bind fun r2' =>
      (S83 n l0 r2').bind fun r3' =>
      some (r3',0)) := by kernel_rfl
theorem S37_run (xs : pksDen pk37) : S37 n xs.1 = runG (E37 n) noScope c37 an37 (rtG rk37) (fun _ _ => none) (rtG rk37) (st0 pk37 xs Try.f37.ntmps) := by kernel_rfl
noncomputable def P37 := phiOf pk37 rk37 (fun xs => S37 n xs.1)
theorem call37 : CallOK Try.prog 37 := callOK_of Try.func37 (by kernel_rfl) (by kernel_rfl)
theorem env37 : EnvOK Try.prog (E37 n) := envOK0 (consPhi_ok (FC24 n) call24 (consPhi_ok (FC77 n) call77 (consPhi_ok (FC83 n) call83 noPhi_ok))) rfl rfl
theorem par37 : EnvPar (E37 n) := envPar0 (consPhi_par phiOf_Par1 (consPhi_par phiOf_Par1 (consPhi_par phiOf_Par1 noPhi_par))) rfl
theorem FC37 : FCs Try.prog 37 (P37 n) := phiOf_FCs fun xs r h vs hv => FC.of_runG tabOK eqsOK (env37 n) (par37 n) mixed (fun _ => noScope_ok) Try.func37 (c := c37) (an := an37) (pks := pk37) (rks := rk37) (by kernel_rfl) (by kernel_rfl) hv ((S37_run n xs).symm.trans h)
abbrev R42 := LP × Int
abbrev K42 := St → Option R42
noncomputable def c42 : Code := bodyOf Try.f42
noncomputable def an42 : Ann := (.s .l (.s .l (.s (.j [0,1,2] (.s .l (.j [0,1,2] .l (.s .l (.j [0,1,2] .l (.s .l (.j [0,1,2] .l .l)))))) .l) (.s .l (.s (.s .l (.j [9] (.j [1,2,9,35,36,37] (.s .l (.s (.j [1,2,9,35,36,37] .l .l) (.j [] (.j [1,2,9,35,36,37] (.s .l (.j [1,2,9,35,36,37] (.s .l (.j [1,2,9,35,36,37] .l (.s .l (.j [1,2,9,35,36,37] .l .l)))) .l)) .l) .l))) .l) .l)) .l)))))
def pk42 : List PK := [.c (.sl (.pair (.int .i64) (.int .i64))),.c (.int .i64),.c (.int .i64)]
def rk42 : List RK := [.own (.pair (.int .i64) (.int .i64)) 6,.c (.int .i64) 7]
noncomputable def rt42 (st : St) : Option R42 := rtG rk42 st
noncomputable def E42 : Env := { T := tab,phi := (consPhi 24 (fun _ => true) (P24 n) (consPhi 77 (fun _ => true) (P77 n) noPhi)),eff := fun _ => false,fuel := n.1,hold := n.2 }
noncomputable def kq42_7 : K42 := run (E42 n) (cB (cB (cB (cB (cB c42))))) an42.snd.snd.snd.snd.snd rt42 (fun _ _ => none) rt42
noncomputable def xb42_9 : Nat → K42 := fun j s => bif Nat.beq j 1 then normC [9] s (kq42_7 n) else (fun _ _ => none) j s
noncomputable def F42_10 : (K42) → K42 := fun K s => run (E42 n) (cA (cA (cB (cA (cB (cB (cB (cB c42)))))))) an42.snd.snd.snd.snd.fst.snd.fst.fst (fun s => normC [1,2,9,35,36,37] s K) (xb42_9 n) rt42 s
noncomputable def kq42_13 (m1 : Nat) : K42 := run (E42 n) (cB (cB (cB (cA (cA (cB (cA (cB (cB (cB (cB c42))))))))))) an42.snd.snd.snd.snd.fst.snd.fst.fst.snd.snd.snd (fun s => normC [1,2,9,35,36,37] s (loopN (F42_10 n) m1)) (xb42_9 n) rt42
noncomputable def L42_1 (m : Nat) (low1 : Int) (high2 : Int) (v36 : Int) (v37 : Int) (out9 : LP) : Option R42 := loopN (F42_10 n) m { tm := [uu,.c (.int .i64 low1),.c (.int .i64 high2),uu,uu,uu,uu,uu,uu,.own 9 none false,uu,uu,uu,uu,uu,uu,uu,uu,uu,uu,uu,uu,uu,uu,uu,uu,uu,uu,uu,uu,uu,uu,uu,uu,uu,.own 9 none false,.c (.int .i64 v36),.c (.int .i64 v37),uu,uu,uu,uu,uu,uu,uu,uu,uu,uu,uu,uu,uu,uu,uu,uu,uu,uu,uu,uu,uu,uu,uu,uu,uu,uu,uu,uu,uu,uu,uu,uu],hp := (upd emp 9 (.arr (.pair (.int .i64) (.int .i64)) out9 false)) }
noncomputable def L42_2 (m1 : Nat) (low1 : Int) (high2 : Int) (v36 : Int) (v37 : Int) (out9 : LP) : Option R42 := loopN (fun _ => (kq42_13 n m1)) n.2 { tm := [uu,.c (.int .i64 low1),.c (.int .i64 high2),uu,uu,uu,uu,uu,uu,.own 9 none false,uu,uu,uu,uu,uu,uu,uu,uu,uu,uu,uu,uu,uu,uu,uu,uu,uu,uu,uu,uu,uu,uu,uu,uu,uu,.own 9 none false,.c (.int .i64 v36),.c (.int .i64 v37),uu,uu,uu,uu,uu,uu,uu,uu,uu,uu,uu,uu,uu,uu,uu,uu,uu,uu,uu,uu,uu,uu,uu,uu,uu,uu,uu,uu,uu,uu,uu,uu],hp := (upd emp 9 (.arr (.pair (.int .i64) (.int .i64)) out9 false)) }
theorem L42_1_eq (m1 : Nat) (low1 : Int) (high2 : Int) (v36 : Int) (v37 : Int) (out9 : LP) : L42_1 n (m1 + 1) low1 high2 v36 v37 out9 =
    (bif decide (v37 < v36) then (bif inB v37 out9.length then (idx out9 v37).bind fun x4' =>
        (bif decide (x4'.1 < wr .i64 (low1 * x4'.2)) then (bif inB v37 out9.length then (idx out9 v37).bind fun x5' =>
            L42_2 n m1 low1 high2 v36 v37 (out9.set (Int.toNat v37) (low1,1))
          else none)
        else (bif decide (x4'.1 > wr .i64 (high2 * x4'.2)) then (bif inB v37 out9.length then (idx out9 v37).bind fun x6' =>
              L42_2 n m1 low1 high2 v36 v37 (out9.set (Int.toNat v37) (high2,1))
            else none)
          else L42_2 n m1 low1 high2 v36 v37 out9))
      else none)
    else some (out9,0)) := by kernel_rfl
theorem L42_2_raw (m1 : Nat) (low1 : Int) (high2 : Int) (v36 : Int) (v37 : Int) (out9 : LP) : (kq42_13 n m1) { tm := [uu,.c (.int .i64 low1),.c (.int .i64 high2),uu,uu,uu,uu,uu,uu,.own 9 none false,uu,uu,uu,uu,uu,uu,uu,uu,uu,uu,uu,uu,uu,uu,uu,uu,uu,uu,uu,uu,uu,uu,uu,uu,uu,.own 9 none false,.c (.int .i64 v36),.c (.int .i64 v37),uu,uu,uu,uu,uu,uu,uu,uu,uu,uu,uu,uu,uu,uu,uu,uu,uu,uu,uu,uu,uu,uu,uu,uu,uu,uu,uu,uu,uu,uu,uu,uu],hp := (upd emp 9 (.arr (.pair (.int .i64) (.int .i64)) out9 false)) } =
    L42_1 n m1 low1 high2 v36 (wr .i64 (v37 + 1)) out9 := by kernel_rfl
noncomputable def S42 (l0 : LP) (low1 : Int) (high2 : Int) : Option R42 := run (E42 n) c42 an42 rt42 (fun _ _ => none) rt42 { tm := [.c (.sl (.pair (.int .i64) (.int .i64)) l0 false),.c (.int .i64 low1),.c (.int .i64 high2),uu,uu,uu,uu,uu,uu,uu,uu,uu,uu,uu,uu,uu,uu,uu,uu,uu,uu,uu,uu,uu,uu,uu,uu,uu,uu,uu,uu,uu,uu,uu,uu,uu,uu,uu,uu,uu,uu,uu,uu,uu,uu,uu,uu,uu,uu,uu,uu,uu,uu,uu,uu,uu,uu,uu,uu,uu,uu,uu,uu,uu,uu,uu,uu,uu,uu,uu],hp := emp }
theorem S42_eq (l0 : LP) (low1 : Int) (high2 : Int) : S42 n l0 low1 high2 =
    (S24 n l0).bind fun r1' =>
    (bif (r1' != 0) then some ([],r1')
    else ((bif (decide ((if high2 < low1 then high2 else low1) < 0) == false) then some (decide ((if high2 > low1 then high2 else low1) > 100))
        else some true)).bind fun b2' =>
      (bif b2' then some ([],1)
      else (bif decide (low1 > high2) then some ([],7)
        else (S77 n l0).bind fun r3' =>
          L42_1 n n.1 low1 high2 (r3'.length : Int) 0 r3'))) := by kernel_rfl
theorem S42_run (xs : pksDen pk42) : S42 n xs.1 xs.2.1 xs.2.2.1 = runG (E42 n) noScope c42 an42 (rtG rk42) (fun _ _ => none) (rtG rk42) (st0 pk42 xs Try.f42.ntmps) := by kernel_rfl
noncomputable def P42 := phiOf pk42 rk42 (fun xs => S42 n xs.1 xs.2.1 xs.2.2.1)
theorem call42 : CallOK Try.prog 42 := callOK_of Try.func42 (by kernel_rfl) (by kernel_rfl)
theorem env42 : EnvOK Try.prog (E42 n) := envOK0 (consPhi_ok (FC24 n) call24 (consPhi_ok (FC77 n) call77 noPhi_ok)) rfl rfl
theorem par42 : EnvPar (E42 n) := envPar0 (consPhi_par phiOf_Par1 (consPhi_par phiOf_Par1 noPhi_par)) rfl
theorem FC42 : FCs Try.prog 42 (P42 n) := phiOf_FCs fun xs r h vs hv => FC.of_runG tabOK eqsOK (env42 n) (par42 n) mixed (fun _ => noScope_ok) Try.func42 (c := c42) (an := an42) (pks := pk42) (rks := rk42) (by kernel_rfl) (by kernel_rfl) hv ((S42_run n xs).symm.trans h)
abbrev R107 := Bool
noncomputable def c107 : Code := bodyOf Try.f107
noncomputable def an107 : Ann := .l
def pk107 : List PK := [.c (.int .i64)]
def rk107 : List RK := [.c .bool 2]
noncomputable def rt107 (st : St) : Option R107 := rtG rk107 st
noncomputable def E107 : Env := { T := tab,phi := noPhi,eff := fun _ => false,fuel := n.1,hold := n.2 }
noncomputable def S107 (x0 : Int) : Option R107 := run (E107 n) c107 an107 rt107 (fun _ _ => none) rt107 { tm := [.c (.int .i64 x0),uu,uu,uu,uu,uu],hp := emp }
theorem S107_eq (x0 : Int) : S107 n x0 =
    some (x0 != x0) := by kernel_rfl
theorem S107_run (xs : pksDen pk107) : S107 n xs.1 = runG (E107 n) noScope c107 an107 (rtG rk107) (fun _ _ => none) (rtG rk107) (st0 pk107 xs Try.f107.ntmps) := by kernel_rfl
noncomputable def P107 := phiOf pk107 rk107 (fun xs => S107 n xs.1)
theorem call107 : CallOK Try.prog 107 := callOK_of Try.func107 (by kernel_rfl) (by kernel_rfl)
theorem env107 : EnvOK Try.prog (E107 n) := envOK0 noPhi_ok rfl rfl
theorem par107 : EnvPar (E107 n) := envPar0 noPhi_par rfl
theorem FC107 : FCs Try.prog 107 (P107 n) := phiOf_FCs fun xs r h vs hv => FC.of_runG tabOK eqsOK (env107 n) (par107 n) mixed (fun _ => noScope_ok) Try.func107 (c := c107) (an := an107) (pks := pk107) (rks := rk107) (by kernel_rfl) (by kernel_rfl) hv ((S107_run n xs).symm.trans h)
abbrev R93 := Int
noncomputable def c93 : Code := bodyOf Try.f93
noncomputable def an93 : Ann := (.s .l (.s .l (.s .l (.s (.s .l (.j [0,1,6] (.s (.s .l (.j [] .l .l)) .l) .l)) (.s (.s .l (.j [0,1] .l .l)) (.s (.s .l (.j [0,1] .l .l)) (.s (.s .l (.j [] .l .l)) .l)))))))
def pk93 : List PK := [.c (.int .i64),.c (.int .i64)]
def rk93 : List RK := [.c (.int .i64) 4]
noncomputable def rt93 (st : St) : Option R93 := rtG rk93 st
noncomputable def E93 : Env := { T := tab,phi := (consPhi 107 (fun _ => true) (P107 n) noPhi),eff := fun _ => false,fuel := n.1,hold := n.2 }
noncomputable def S93 (x0 : Int) (y1 : Int) : Option R93 := run (E93 n) c93 an93 rt93 (fun _ _ => none) rt93 { tm := [.c (.int .i64 x0),.c (.int .i64 y1),uu,uu,uu,uu,uu,uu,uu,uu,uu,uu,uu,uu,uu,uu,uu,uu,uu,uu],hp := emp }
theorem S93_eq (x0 : Int) (y1 : Int) : S93 n x0 y1 =
    (S107 n x0).bind fun r1' =>
    (S107 n y1).bind fun r2' =>
    (bif r1' then (bif r2' then some 0
      else some (-1))
    else (bif r2' then some 1
      else (bif decide (x0 < y1) then some (-1)
        else (bif decide (x0 > y1) then some 1
          else some 0)))) := by kernel_rfl
theorem S93_run (xs : pksDen pk93) : S93 n xs.1 xs.2.1 = runG (E93 n) noScope c93 an93 (rtG rk93) (fun _ _ => none) (rtG rk93) (st0 pk93 xs Try.f93.ntmps) := by kernel_rfl
noncomputable def P93 := phiOf pk93 rk93 (fun xs => S93 n xs.1 xs.2.1)
theorem call93 : CallOK Try.prog 93 := callOK_of Try.func93 (by kernel_rfl) (by kernel_rfl)
theorem env93 : EnvOK Try.prog (E93 n) := envOK0 (consPhi_ok (FC107 n) call107 noPhi_ok) rfl rfl
theorem par93 : EnvPar (E93 n) := envPar0 (consPhi_par phiOf_Par1 noPhi_par) rfl
theorem FC93 : FCs Try.prog 93 (P93 n) := phiOf_FCs fun xs r h vs hv => FC.of_runG tabOK eqsOK (env93 n) (par93 n) mixed (fun _ => noScope_ok) Try.func93 (c := c93) (an := an93) (pks := pk93) (rks := rk93) (by kernel_rfl) (by kernel_rfl) hv ((S93_run n xs).symm.trans h)
abbrev R64 := Int
abbrev K64 := St → Option R64
noncomputable def c64 : Code := bodyOf Try.f64
noncomputable def an64 : Ann := (.s .l (.s (.s .l (.j [0,1] (.j [0,1,9,10,11] (.s .l (.s (.j [0,1,9,10,11] .l .l) (.s (.j [0,1,9,10,11] (.s .l (.s (.s .l (.j [0,1,5,6,9,10,11] .l .l)) (.s .l (.s .l (.s .l (.j [0,1,9,10,11] .l .l)))))) .l) .l))) .l) .l)) (.s (.s .l (.j [] .l .l)) .l)))
def pk64 : List PK := [.c (.sl (.int .i64)),.c (.sl (.int .i64))]
def rk64 : List RK := [.c (.int .i64) 4]
noncomputable def rt64 (st : St) : Option R64 := rtG rk64 st
noncomputable def E64 : Env := { T := tab,phi := (consPhi 93 (fun _ => true) (P93 n) noPhi),eff := fun _ => false,fuel := n.1,hold := n.2 }
noncomputable def kq64_1 : K64 := run (E64 n) (cB (cB c64)) an64.snd.snd rt64 (fun _ _ => none) rt64
noncomputable def xb64_3 : Nat → K64 := fun j s => bif Nat.beq j 0 then normC [0,1] s (kq64_1 n) else (fun _ _ => none) j s
noncomputable def F64_4 : (K64) → K64 := fun K s => run (E64 n) (cA (cA (cB (cA (cB c64))))) an64.snd.fst.snd.fst.fst (fun s => normC [0,1,9,10,11] s K) (xb64_3 n) rt64 s
noncomputable def L64_1 (m : Nat) (s10 : List Int) (s21 : List Int) (v9 : List Int) (v10 : Int) (v11 : Int) : Option R64 := loopN (F64_4 n) m { tm := [.c (.sl (.int .i64) s10 false),.c (.sl (.int .i64) s21 false),uu,uu,uu,uu,uu,uu,uu,.c (.sl (.int .i64) v9 false),.c (.int .i64 v10),.c (.int .i64 v11),uu,uu,uu,uu,uu,uu,uu,uu,uu,uu,uu,uu,uu,uu,uu,uu,uu,uu,uu,uu,uu,uu,uu,uu],hp := emp }
theorem L64_1_eq (m1 : Nat) (s10 : List Int) (s21 : List Int) (v9 : List Int) (v10 : Int) (v11 : Int) : L64_1 n (m1 + 1) s10 s21 v9 v10 v11 =
    (bif decide (v11 < v10) then (idx v9 v11).bind fun x1' =>
      (bif decide (v11 ≥ (s21.length : Int)) then some 1
      else (idx s21 v11).bind fun x2' =>
        (S93 n x1' x2').bind fun r3' =>
        (bif (r3' != 0) then some r3'
        else L64_1 n m1 s10 s21 v9 v10 (wr .i64 (v11 + 1))))
    else (bif decide ((s10.length : Int) < (s21.length : Int)) then some (-1)
      else some 0)) := by kernel_rfl
noncomputable def S64 (s10 : List Int) (s21 : List Int) : Option R64 := run (E64 n) c64 an64 rt64 (fun _ _ => none) rt64 { tm := [.c (.sl (.int .i64) s10 false),.c (.sl (.int .i64) s21 false),uu,uu,uu,uu,uu,uu,uu,uu,uu,uu,uu,uu,uu,uu,uu,uu,uu,uu,uu,uu,uu,uu,uu,uu,uu,uu,uu,uu,uu,uu,uu,uu,uu,uu],hp := emp }
theorem S64_eq (s10 : List Int) (s21 : List Int) : S64 n s10 s21 =
    L64_1 n n.1 s10 s21 s10 (s10.length : Int) 0 := by kernel_rfl
theorem S64_run (xs : pksDen pk64) : S64 n xs.1 xs.2.1 = runG (E64 n) noScope c64 an64 (rtG rk64) (fun _ _ => none) (rtG rk64) (st0 pk64 xs Try.f64.ntmps) := by kernel_rfl
noncomputable def P64 := phiOf pk64 rk64 (fun xs => S64 n xs.1 xs.2.1)
theorem call64 : CallOK Try.prog 64 := callOK_of Try.func64 (by kernel_rfl) (by kernel_rfl)
theorem env64 : EnvOK Try.prog (E64 n) := envOK0 (consPhi_ok (FC93 n) call93 noPhi_ok) rfl rfl
theorem par64 : EnvPar (E64 n) := envPar0 (consPhi_par phiOf_Par1 noPhi_par) rfl
theorem FC64 : FCs Try.prog 64 (P64 n) := phiOf_FCs fun xs r h vs hv => FC.of_runG tabOK eqsOK (env64 n) (par64 n) mixed (fun _ => noScope_ok) Try.func64 (c := c64) (an := an64) (pks := pk64) (rks := rk64) (by kernel_rfl) (by kernel_rfl) hv ((S64_run n xs).symm.trans h)
abbrev R44 := List Int × Int
abbrev K44 := St → Option R44
noncomputable def c44 : Code := bodyOf Try.f44
noncomputable def an44 : Ann := (.s .l (.s (.s .l (.s .l (.j [0,41,42,43,44,51,52,53,54,55,56,57,58,59,60,61,62,63,64,65,66,67,68,69,70,71,72] .l .l))) (.s .l (.s (.s .l (.j [5] (.j [0,5,19,20,41,42,43,44,51,52,53,54,55,56,57,58,59,60,61,62,63,64,65,66,67,68,69,70,71,72] (.s .l (.s (.j [0,5,19,20,41,42,43,44,51,52,53,54,55,56,57,58,59,60,61,62,63,64,65,66,67,68,69,70,71,72] .l .l) (.j [] (.j [0,5,19,20,41,42,43,44,51,52,53,54,55,56,57,58,59,60,61,62,63,64,65,66,67,68,69,70,71,72] (.s .l (.s .l (.s .l (.s .l (.s (.s .l (.j [0,5,7,9,19,20,41,42,43,44,51,52,53,54,55,56,57,58,59,60,61,62,63,64,65,66,67,68,69,70,71,72] (.j [0,5,6,7,8,9,19,20,23,24,25,41,42,43,44,51,52,53,54,55,56,57,58,59,60,61,62,63,64,65,66,67,68,69,70,71,72] (.s .l (.s (.j [0,5,6,7,8,9,19,20,23,24,25,41,42,43,44,51,52,53,54,55,56,57,58,59,60,61,62,63,64,65,66,67,68,69,70,71,72] .l .l) (.j [] (.j [0,5,6,7,8,9,19,20,23,24,25,41,42,43,44,51,52,53,54,55,56,57,58,59,60,61,62,63,64,65,66,67,68,69,70,71,72] (.s .l (.s (.s .l (.j [0,5,6,7,8,9,11,19,20,23,24,25,41,42,43,44,51,52,53,54,55,56,57,58,59,60,61,62,63,64,65,66,67,68,69,70,71,72] .l .l)) .l)) .l) .l))) .l) .l)) (.s .l (.j [0,5,19,20,41,42,43,44,51,52,53,54,55,56,57,58,59,60,61,62,63,64,65,66,67,68,69,70,71,72] (.s .l (.s .l (.j [0,5,19,20,41,42,43,44,51,52,53,54,55,56,57,58,59,60,61,62,63,64,65,66,67,68,69,70,71,72] .l .l))) .l))))))) .l) .l))) .l) .l)) .l))))
def pk44 : List PK := [.c (.sl (.pair (.int .i64) (.int .i64)))]
def rk44 : List RK := [.own (.int .i64) 2,.c (.int .i64) 3]
noncomputable def rt44 (st : St) : Option R44 := rtG rk44 st
noncomputable def E44 : Env := { T := tab,phi := (consPhi 24 (fun _ => true) (P24 n) (consPhi 64 (fun _ => true) (P64 n) noPhi)),eff := fun _ => false,fuel := n.1,hold := n.2 }
noncomputable def kq44_3 : K44 := run (E44 n) (cB (cB (cB (cB c44)))) an44.snd.snd.snd.snd rt44 (fun _ _ => none) rt44
noncomputable def xb44_5 : Nat → K44 := fun j s => bif Nat.beq j 0 then normC [5] s (kq44_3 n) else (fun _ _ => none) j s
noncomputable def F44_6 : (K44) → K44 := fun K s => run (E44 n) (cA (cA (cB (cA (cB (cB (cB c44))))))) an44.snd.snd.snd.fst.snd.fst.fst (fun s => normC [0,5,19,20,41,42,43,44,51,52,53,54,55,56,57,58,59,60,61,62,63,64,65,66,67,68,69,70,71,72] s K) (xb44_5 n) rt44 s
noncomputable def kq44_9 (m1 : Nat) : K44 := run (E44 n) (cB (cB (cB (cA (cA (cB (cA (cB (cB (cB c44)))))))))) an44.snd.snd.snd.fst.snd.fst.fst.snd.snd.snd (fun s => normC [0,5,19,20,41,42,43,44,51,52,53,54,55,56,57,58,59,60,61,62,63,64,65,66,67,68,69,70,71,72] s (loopN (F44_6 n) m1)) (xb44_5 n) rt44
noncomputable def kc44_10 (m1 : Nat) : K44 := fun s => normC [0,5,19,20,41,42,43,44,51,52,53,54,55,56,57,58,59,60,61,62,63,64,65,66,67,68,69,70,71,72] s (loopN (fun _ => (kq44_9 n m1)) n.2)
noncomputable def xb44_11 (m1 : Nat) : Nat → K44 := fun j s => bif Nat.beq j 1 then normC [0,5,19,20,41,42,43,44,51,52,53,54,55,56,57,58,59,60,61,62,63,64,65,66,67,68,69,70,71,72] s (loopN (fun _ => (kq44_9 n m1)) n.2) else (xb44_5 n) j s
noncomputable def kq44_12 (m1 : Nat) : K44 := run (E44 n) (cB (cB (cB (cB (cB (cA (cA (cB (cB (cA (cA (cB (cA (cB (cB (cB c44)))))))))))))))) an44.snd.snd.snd.fst.snd.fst.fst.snd.snd.fst.fst.snd.snd.snd.snd.snd (kc44_10 n m1) (xb44_11 n m1) rt44
noncomputable def xb44_14 (m1 : Nat) : Nat → K44 := fun j s => bif Nat.beq j 2 then normC [0,5,7,9,19,20,41,42,43,44,51,52,53,54,55,56,57,58,59,60,61,62,63,64,65,66,67,68,69,70,71,72] s (kq44_12 n m1) else (xb44_11 n m1) j s
noncomputable def F44_15 (m1 : Nat) : (K44) → K44 := fun K s => run (E44 n) (cA (cA (cB (cA (cB (cB (cB (cB (cA (cA (cB (cB (cA (cA (cB (cA (cB (cB (cB c44))))))))))))))))))) an44.snd.snd.snd.fst.snd.fst.fst.snd.snd.fst.fst.snd.snd.snd.snd.fst.snd.fst.fst (fun s => normC [0,5,6,7,8,9,19,20,23,24,25,41,42,43,44,51,52,53,54,55,56,57,58,59,60,61,62,63,64,65,66,67,68,69,70,71,72] s K) (xb44_14 n m1) rt44 s
noncomputable def kq44_18 (m1 m2 : Nat) : K44 := run (E44 n) (cB (cB (cB (cA (cA (cB (cA (cB (cB (cB (cB (cA (cA (cB (cB (cA (cA (cB (cA (cB (cB (cB c44)))))))))))))))))))))) an44.snd.snd.snd.fst.snd.fst.fst.snd.snd.fst.fst.snd.snd.snd.snd.fst.snd.fst.fst.snd.snd.snd (fun s => normC [0,5,6,7,8,9,19,20,23,24,25,41,42,43,44,51,52,53,54,55,56,57,58,59,60,61,62,63,64,65,66,67,68,69,70,71,72] s (loopN (F44_15 n m1) m2)) (xb44_14 n m1) rt44
noncomputable def L44_1 (m : Nat) (l0 : LP) (v19 : Int) (v20 : Int) (best5 : List Int) : Option R44 := loopN (F44_6 n) m { tm := [.c (.sl (.pair (.int .i64) (.int .i64)) l0 false),uu,uu,uu,uu,.own 5 none false,uu,uu,uu,uu,uu,uu,uu,uu,uu,uu,uu,uu,uu,.c (.int .i64 v19),.c (.int .i64 v20),uu,uu,uu,uu,uu,uu,uu,uu,uu,uu,uu,uu,uu,uu,uu,uu,uu,uu,uu,uu,uu,uu,uu,uu,uu,uu,uu,uu,uu,uu,uu,uu,uu,uu,uu,uu,uu,uu,uu,uu,uu,uu,uu,uu,uu,uu,uu,uu,uu,uu,uu,uu,uu,uu,uu,uu,uu,uu],hp := (upd emp 5 (.arr (.int .i64) best5 true)) }
noncomputable def L44_2 (m1 : Nat) (m : Nat) (l0 : LP) (v6 : Int) (v8 : Int) (good9 : Bool) (v19 : Int) (v20 : Int) (v23 : LP) (v24 : Int) (v25 : Int) (best5 : List Int) (out7 : List Int) : Option R44 := loopN (F44_15 n m1) m { tm := [.c (.sl (.pair (.int .i64) (.int .i64)) l0 false),uu,uu,uu,uu,.own 5 none false,.c (.int .i64 v6),.own 7 none false,.c (.int .i64 v8),.c (.bool good9),uu,uu,uu,uu,uu,uu,uu,uu,uu,.c (.int .i64 v19),.c (.int .i64 v20),uu,uu,.c (.sl (.pair (.int .i64) (.int .i64)) v23 false),.c (.int .i64 v24),.c (.int .i64 v25),uu,uu,uu,uu,uu,uu,uu,uu,uu,uu,uu,uu,uu,uu,uu,uu,uu,uu,uu,uu,uu,uu,uu,uu,uu,uu,uu,uu,uu,uu,uu,uu,uu,uu,uu,uu,uu,uu,uu,uu,uu,uu,uu,uu,uu,uu,uu,uu,uu,uu,uu,uu,uu],hp := (upd (upd emp 7 (.arr (.int .i64) out7 true)) 5 (.arr (.int .i64) best5 true)) }
noncomputable def L44_3 (m1 m2 : Nat) (l0 : LP) (v6 : Int) (v8 : Int) (good9 : Bool) (v19 : Int) (v20 : Int) (v23 : LP) (v24 : Int) (v25 : Int) (best5 : List Int) (out7 : List Int) : Option R44 := loopN (fun _ => (kq44_18 n m1 m2)) n.2 { tm := [.c (.sl (.pair (.int .i64) (.int .i64)) l0 false),uu,uu,uu,uu,.own 5 none false,.c (.int .i64 v6),.own 7 none false,.c (.int .i64 v8),.c (.bool good9),uu,uu,uu,uu,uu,uu,uu,uu,uu,.c (.int .i64 v19),.c (.int .i64 v20),uu,uu,.c (.sl (.pair (.int .i64) (.int .i64)) v23 false),.c (.int .i64 v24),.c (.int .i64 v25),uu,uu,uu,uu,uu,uu,uu,uu,uu,uu,uu,uu,uu,uu,uu,uu,uu,uu,uu,uu,uu,uu,uu,uu,uu,uu,uu,uu,uu,uu,uu,uu,uu,uu,uu,uu,uu,uu,uu,uu,uu,uu,uu,uu,uu,uu,uu,uu,uu,uu,uu,uu,uu],hp := (upd (upd emp 7 (.arr (.int .i64) out7 true)) 5 (.arr (.int .i64) best5 true)) }
noncomputable def L44_4 (m1 : Nat) (l0 : LP) (v19 : Int) (v20 : Int) (best5 : List Int) : Option R44 := loopN (fun _ => (kq44_9 n m1)) n.2 { tm := [.c (.sl (.pair (.int .i64) (.int .i64)) l0 false),uu,uu,uu,uu,.own 5 none false,uu,uu,uu,uu,uu,uu,uu,uu,uu,uu,uu,uu,uu,.c (.int .i64 v19),.c (.int .i64 v20),uu,uu,uu,uu,uu,uu,uu,uu,uu,uu,uu,uu,uu,uu,uu,uu,uu,uu,uu,uu,uu,uu,uu,uu,uu,uu,uu,uu,uu,uu,uu,uu,uu,uu,uu,uu,uu,uu,uu,uu,uu,uu,uu,uu,uu,uu,uu,uu,uu,uu,uu,uu,uu,uu,uu,uu,uu,uu],hp := (upd emp 5 (.arr (.int .i64) best5 true)) }
theorem L44_1_eq (m1 : Nat) (l0 : LP) (v19 : Int) (v20 : Int) (best5 : List Int) : L44_1 n (m1 + 1) l0 v19 v20 best5 =
    (bif decide (v20 < v19) then L44_2 n m1 n.1 l0 v20 (-1) true v19 v20 l0 (l0.length : Int) 0 best5 []
    else some (best5,0)) := by kernel_rfl
theorem L44_2_eq (m1 m2 : Nat) (l0 : LP) (v6 : Int) (v8 : Int) (good9 : Bool) (v19 : Int) (v20 : Int) (v23 : LP) (v24 : Int) (v25 : Int) (best5 : List Int) (out7 : List Int) : L44_2 n m1 (m2 + 1) l0 v6 v8 good9 v19 v20 v23 v24 v25 best5 out7 =
    (bif decide (v25 < v24) then (idx v23 v25).bind fun x2' =>
      (bif decide (v25 < 0) then none
      else (bif ((wr .i64 (BitVec.ofInt (IntKind.bits .i64) (Int.fdiv v6 (2 ^ (min (Int.toNat v25) (IntKind.bits .i64)))) &&& BitVec.ofInt (IntKind.bits .i64) 1).toNat) == 1) then (bif decide (out7.length + [v25].length ≤ lim) then L44_3 n m1 m2 l0 v6 v8 good9 v19 v20 v23 v24 v25 best5 (out7 ++ [v25])
          else none)
        else ((bif (good9 == true) then some (decide (x2'.1 ≥ v8))
            else some false)).bind fun b3' =>
          L44_3 n m1 m2 l0 v6 x2'.1 b3' v19 v20 v23 v24 v25 best5 out7))
    else ((bif (good9 == true) then ((bif (best5.isEmpty == false) then some (decide ((out7.length : Int) < (best5.length : Int)))
            else some true)).bind fun b4' =>
          ((bif (b4' == false) then ((bif (((out7.length : Int) == (best5.length : Int)) == true) then (S64 n out7 best5).bind fun r5' =>
                  some (decide (r5' < 0))
                else some false)).bind fun b6' =>
              some b6'
            else some true)).bind fun b7' =>
          some b7'
        else some false)).bind fun b8' =>
      (bif b8' then (bif out7.isEmpty then some ([],0)
        else L44_4 n m1 l0 v19 v20 out7)
      else L44_4 n m1 l0 v19 v20 best5)) := by kernel_rfl
theorem L44_3_raw (m1 m2 : Nat) (l0 : LP) (v6 : Int) (v8 : Int) (good9 : Bool) (v19 : Int) (v20 : Int) (v23 : LP) (v24 : Int) (v25 : Int) (best5 : List Int) (out7 : List Int) : (kq44_18 n m1 m2) { tm := [.c (.sl (.pair (.int .i64) (.int .i64)) l0 false),uu,uu,uu,uu,.own 5 none false,.c (.int .i64 v6),.own 7 none false,.c (.int .i64 v8),.c (.bool good9),uu,uu,uu,uu,uu,uu,uu,uu,uu,.c (.int .i64 v19),.c (.int .i64 v20),uu,uu,.c (.sl (.pair (.int .i64) (.int .i64)) v23 false),.c (.int .i64 v24),.c (.int .i64 v25),uu,uu,uu,uu,uu,uu,uu,uu,uu,uu,uu,uu,uu,uu,uu,uu,uu,uu,uu,uu,uu,uu,uu,uu,uu,uu,uu,uu,uu,uu,uu,uu,uu,uu,uu,uu,uu,uu,uu,uu,uu,uu,uu,uu,uu,uu,uu,uu,uu,uu,uu,uu,uu],hp := (upd (upd emp 7 (.arr (.int .i64) out7 true)) 5 (.arr (.int .i64) best5 true)) } =
    L44_2 n m1 m2 l0 v6 v8 good9 v19 v20 v23 v24 (wr .i64 (v25 + 1)) best5 out7 := by kernel_rfl
theorem L44_4_raw (m1 : Nat) (l0 : LP) (v19 : Int) (v20 : Int) (best5 : List Int) : (kq44_9 n m1) { tm := [.c (.sl (.pair (.int .i64) (.int .i64)) l0 false),uu,uu,uu,uu,.own 5 none false,uu,uu,uu,uu,uu,uu,uu,uu,uu,uu,uu,uu,uu,.c (.int .i64 v19),.c (.int .i64 v20),uu,uu,uu,uu,uu,uu,uu,uu,uu,uu,uu,uu,uu,uu,uu,uu,uu,uu,uu,uu,uu,uu,uu,uu,uu,uu,uu,uu,uu,uu,uu,uu,uu,uu,uu,uu,uu,uu,uu,uu,uu,uu,uu,uu,uu,uu,uu,uu,uu,uu,uu,uu,uu,uu,uu,uu,uu,uu],hp := (upd emp 5 (.arr (.int .i64) best5 true)) } =
    L44_1 n m1 l0 v19 (wr .i64 (v20 + 1)) best5 := by kernel_rfl
noncomputable def S44 (l0 : LP) : Option R44 := run (E44 n) c44 an44 rt44 (fun _ _ => none) rt44 { tm := [.c (.sl (.pair (.int .i64) (.int .i64)) l0 false),uu,uu,uu,uu,uu,uu,uu,uu,uu,uu,uu,uu,uu,uu,uu,uu,uu,uu,uu,uu,uu,uu,uu,uu,uu,uu,uu,uu,uu,uu,uu,uu,uu,uu,uu,uu,uu,uu,uu,uu,uu,uu,uu,uu,uu,uu,uu,uu,uu,uu,uu,uu,uu,uu,uu,uu,uu,uu,uu,uu,uu,uu,uu,uu,uu,uu,uu,uu,uu,uu,uu,uu,uu,uu,uu,uu,uu,uu],hp := emp }
theorem S44_eq (l0 : LP) : S44 n l0 =
    (S24 n l0).bind fun r1' =>
    (bif (r1' != 0) then some ([],r1')
    else (bif decide ((l0.length : Int) < 0) then none
      else L44_1 n n.1 l0 (wr .i64 (1 * 2 ^ (min (Int.toNat (l0.length : Int)) (IntKind.bits .i64)))) 0 [])) := by kernel_rfl
theorem S44_run (xs : pksDen pk44) : S44 n xs.1 = runG (E44 n) noScope c44 an44 (rtG rk44) (fun _ _ => none) (rtG rk44) (st0 pk44 xs Try.f44.ntmps) := by kernel_rfl
noncomputable def P44 := phiOf pk44 rk44 (fun xs => S44 n xs.1)
theorem call44 : CallOK Try.prog 44 := callOK_of Try.func44 (by kernel_rfl) (by kernel_rfl)
theorem env44 : EnvOK Try.prog (E44 n) := envOK0 (consPhi_ok (FC24 n) call24 (consPhi_ok (FC64 n) call64 noPhi_ok)) rfl rfl
theorem par44 : EnvPar (E44 n) := envPar0 (consPhi_par phiOf_Par1 (consPhi_par phiOf_Par1 noPhi_par)) rfl
theorem FC44 : FCs Try.prog 44 (P44 n) := phiOf_FCs fun xs r h vs hv => FC.of_runG tabOK eqsOK (env44 n) (par44 n) mixed (fun _ => noScope_ok) Try.func44 (c := c44) (an := an44) (pks := pk44) (rks := rk44) (by kernel_rfl) (by kernel_rfl) hv ((S44_run n xs).symm.trans h)
abbrev R55 := LP
noncomputable def c55 : Code := bodyOf Try.f55
noncomputable def an55 : Ann := .l
def pk55 : List PK := []
def rk55 : List RK := [.own (.pair (.int .i64) (.int .i64)) 0]
noncomputable def rt55 (st : St) : Option R55 := rtG rk55 st
noncomputable def E55 : Env := { T := tab,phi := (consPhi 60 (fun _ => true) (P60 n) noPhi),eff := fun _ => false,fuel := n.1,hold := n.2 }
noncomputable def S55 : Option R55 := run (E55 n) c55 an55 rt55 (fun _ _ => none) rt55 { tm := [uu,uu,uu],hp := emp }
theorem S55_eq : S55 n =
    (S60 n [1,1,2,2,2,1]).bind fun r1' =>
    some r1' := by kernel_rfl
theorem S55_run (xs : pksDen pk55) : S55 n = runG (E55 n) noScope c55 an55 (rtG rk55) (fun _ _ => none) (rtG rk55) (st0 pk55 xs Try.f55.ntmps) := by kernel_rfl
noncomputable def P55 := phiOf pk55 rk55 (fun xs => S55 n)
theorem call55 : CallOK Try.prog 55 := callOK_of Try.func55 (by kernel_rfl) (by kernel_rfl)
theorem env55 : EnvOK Try.prog (E55 n) := envOK0 (consPhi_ok (FC60 n) call60 noPhi_ok) rfl rfl
theorem par55 : EnvPar (E55 n) := envPar0 (consPhi_par phiOf_Par1 noPhi_par) rfl
theorem FC55 : FCs Try.prog 55 (P55 n) := phiOf_FCs fun xs r h vs hv => FC.of_runG tabOK eqsOK (env55 n) (par55 n) mixed (fun _ => noScope_ok) Try.func55 (c := c55) (an := an55) (pks := pk55) (rks := rk55) (by kernel_rfl) (by kernel_rfl) hv ((S55_run n xs).symm.trans h)
abbrev R52 := Int × Int
noncomputable def c52 : Code := bodyOf Try.f52
noncomputable def an52 : Ann := .l
def pk52 : List PK := [.c (.int .i64),.c (.int .i64)]
def rk52 : List RK := [.box (.pair (.int .i64) (.int .i64)) 4]
noncomputable def rt52 (st : St) : Option R52 := rtG rk52 st
noncomputable def E52 : Env := { T := tab,phi := noPhi,eff := fun _ => false,fuel := n.1,hold := n.2 }
noncomputable def S52 (num0 : Int) (den1 : Int) : Option R52 := run (E52 n) c52 an52 rt52 (fun _ _ => none) rt52 { tm := [.c (.int .i64 num0),.c (.int .i64 den1),uu,uu,uu,uu,uu,uu],hp := emp }
theorem S52_eq (num0 : Int) (den1 : Int) : S52 n num0 den1 =
    some (num0,den1) := by kernel_rfl
theorem S52_run (xs : pksDen pk52) : S52 n xs.1 xs.2.1 = runG (E52 n) noScope c52 an52 (rtG rk52) (fun _ _ => none) (rtG rk52) (st0 pk52 xs Try.f52.ntmps) := by kernel_rfl
noncomputable def P52 := phiOf pk52 rk52 (fun xs => S52 n xs.1 xs.2.1)
theorem call52 : CallOK Try.prog 52 := callOK_of Try.func52 (by kernel_rfl) (by kernel_rfl)
theorem env52 : EnvOK Try.prog (E52 n) := envOK0 noPhi_ok rfl rfl
theorem par52 : EnvPar (E52 n) := envPar0 noPhi_par rfl
theorem FC52 : FCs Try.prog 52 (P52 n) := phiOf_FCs fun xs r h vs hv => FC.of_runG tabOK eqsOK (env52 n) (par52 n) mixed (fun _ => noScope_ok) Try.func52 (c := c52) (an := an52) (pks := pk52) (rks := rk52) (by kernel_rfl) (by kernel_rfl) hv ((S52_run n xs).symm.trans h)
abbrev R57 := LP
abbrev K57 := St → Option R57
noncomputable def c57 : Code := bodyOf Try.f57
noncomputable def an57 : Ann := (.s .l (.s .l (.s (.s .l (.j [3] (.j [0,3,4] (.s (.s .l (.j [0,3,4] .l .l)) (.s (.j [0,3,4] .l .l) .l)) .l) .l)) .l)))
def pk57 : List PK := [.c (.sl (.int .i64))]
def rk57 : List RK := [.own (.pair (.int .i64) (.int .i64)) 2]
noncomputable def rt57 (st : St) : Option R57 := rtG rk57 st
noncomputable def E57 : Env := { T := tab,phi := (consPhi 52 (fun _ => true) (P52 n) noPhi),eff := fun _ => false,fuel := n.1,hold := n.2 }
noncomputable def kq57_1 : K57 := run (E57 n) (cB (cB (cB c57))) an57.snd.snd.snd rt57 (fun _ _ => none) rt57
noncomputable def xb57_3 : Nat → K57 := fun j s => bif Nat.beq j 0 then normC [3] s (kq57_1 n) else (fun _ _ => none) j s
noncomputable def F57_4 : (K57) → K57 := fun K s => run (E57 n) (cA (cA (cB (cA (cB (cB c57)))))) an57.snd.snd.fst.snd.fst.fst (fun s => normC [0,3,4] s K) (xb57_3 n) rt57 s
noncomputable def L57_1 (m : Nat) (l0 : List Int) (i4 : Int) (out3 : LP) : Option R57 := loopN (F57_4 n) m { tm := [.c (.sl (.int .i64) l0 false),uu,uu,.own 3 none false,.c (.int .i64 i4),uu,uu,uu,uu,uu,uu,uu,uu,uu,uu,uu,uu,uu,uu,uu],hp := (upd emp 3 (.arr (.pair (.int .i64) (.int .i64)) out3 true)) }
theorem L57_1_eq (m1 : Nat) (l0 : List Int) (i4 : Int) (out3 : LP) : L57_1 n (m1 + 1) l0 i4 out3 =
    (bif decide (i4 < (l0.length : Int)) then (idx l0 i4).bind fun x1' =>
      (S52 n x1' 1).bind fun r2' =>
      (bif decide (out3.length + [r2'].length ≤ lim) then L57_1 n m1 l0 (wr .i64 (i4 + 1)) (out3 ++ [r2'])
      else none)
    else some out3) := by kernel_rfl
noncomputable def S57 (l0 : List Int) : Option R57 := run (E57 n) c57 an57 rt57 (fun _ _ => none) rt57 { tm := [.c (.sl (.int .i64) l0 false),uu,uu,uu,uu,uu,uu,uu,uu,uu,uu,uu,uu,uu,uu,uu,uu,uu,uu,uu],hp := emp }
theorem S57_eq (l0 : List Int) : S57 n l0 =
    L57_1 n n.1 l0 0 [] := by kernel_rfl
theorem S57_run (xs : pksDen pk57) : S57 n xs.1 = runG (E57 n) noScope c57 an57 (rtG rk57) (fun _ _ => none) (rtG rk57) (st0 pk57 xs Try.f57.ntmps) := by kernel_rfl
noncomputable def P57 := phiOf pk57 rk57 (fun xs => S57 n xs.1)
theorem call57 : CallOK Try.prog 57 := callOK_of Try.func57 (by kernel_rfl) (by kernel_rfl)
theorem env57 : EnvOK Try.prog (E57 n) := envOK0 (consPhi_ok (FC52 n) call52 noPhi_ok) rfl rfl
theorem par57 : EnvPar (E57 n) := envPar0 (consPhi_par phiOf_Par1 noPhi_par) rfl
theorem FC57 : FCs Try.prog 57 (P57 n) := phiOf_FCs fun xs r h vs hv => FC.of_runG tabOK eqsOK (env57 n) (par57 n) mixed (fun _ => noScope_ok) Try.func57 (c := c57) (an := an57) (pks := pk57) (rks := rk57) (by kernel_rfl) (by kernel_rfl) hv ((S57_run n xs).symm.trans h)
abbrev R51 := Bool
abbrev K51 := St → Option R51
noncomputable def c51 : Code := bodyOf Try.f51
noncomputable def an51 : Ann := (.s .l (.s (.s .l (.j [0,1] .l .l)) (.s (.s .l (.j [] (.j [0,1,5] (.s (.s .l (.j [0,1,5] .l .l)) (.s (.j [0,1,5] (.s .l (.j [0,1,5] .l .l)) .l) .l)) .l) .l)) .l)))
def pk51 : List PK := [.c (.sl (.pair (.int .i64) (.int .i64))),.c (.sl (.pair (.int .i64) (.int .i64)))]
def rk51 : List RK := [.c .bool 4]
noncomputable def rt51 (st : St) : Option R51 := rtG rk51 st
noncomputable def E51 : Env := { T := tab,phi := noPhi,eff := fun _ => false,fuel := n.1,hold := n.2 }
noncomputable def kq51_3 : K51 := run (E51 n) (cB (cB (cB c51))) an51.snd.snd.snd rt51 (fun _ _ => none) rt51
noncomputable def xb51_5 : Nat → K51 := fun j s => bif Nat.beq j 0 then normC [] s (kq51_3 n) else (fun _ _ => none) j s
noncomputable def F51_6 : (K51) → K51 := fun K s => run (E51 n) (cA (cA (cB (cA (cB (cB c51)))))) an51.snd.snd.fst.snd.fst.fst (fun s => normC [0,1,5] s K) (xb51_5 n) rt51 s
noncomputable def L51_1 (m : Nat) (a0 : LP) (b1 : LP) (i5 : Int) : Option R51 := loopN (F51_6 n) m { tm := [.c (.sl (.pair (.int .i64) (.int .i64)) a0 false),.c (.sl (.pair (.int .i64) (.int .i64)) b1 false),uu,uu,uu,.c (.int .i64 i5),uu,uu,uu,uu,uu,uu,uu,uu,uu,uu,uu,uu,uu,uu,uu,uu,uu,uu,uu,uu],hp := emp }
theorem L51_1_eq (m1 : Nat) (a0 : LP) (b1 : LP) (i5 : Int) : L51_1 n (m1 + 1) a0 b1 i5 =
    (bif decide (i5 < (a0.length : Int)) then (idx a0 i5).bind fun x1' =>
      (idx b1 i5).bind fun x2' =>
      (bif (!((x1'.1 == x2'.1) && ((x1'.2 == x2'.2) && true))) then some false
      else L51_1 n m1 a0 b1 (wr .i64 (i5 + 1)))
    else some true) := by kernel_rfl
noncomputable def S51 (a0 : LP) (b1 : LP) : Option R51 := run (E51 n) c51 an51 rt51 (fun _ _ => none) rt51 { tm := [.c (.sl (.pair (.int .i64) (.int .i64)) a0 false),.c (.sl (.pair (.int .i64) (.int .i64)) b1 false),uu,uu,uu,uu,uu,uu,uu,uu,uu,uu,uu,uu,uu,uu,uu,uu,uu,uu,uu,uu,uu,uu,uu,uu],hp := emp }
theorem S51_eq (a0 : LP) (b1 : LP) : S51 n a0 b1 =
    (bif ((a0.length : Int) != (b1.length : Int)) then some false
    else L51_1 n n.1 a0 b1 0) := by kernel_rfl
theorem S51_run (xs : pksDen pk51) : S51 n xs.1 xs.2.1 = runG (E51 n) noScope c51 an51 (rtG rk51) (fun _ _ => none) (rtG rk51) (st0 pk51 xs Try.f51.ntmps) := by kernel_rfl
noncomputable def P51 := phiOf pk51 rk51 (fun xs => S51 n xs.1 xs.2.1)
theorem call51 : CallOK Try.prog 51 := callOK_of Try.func51 (by kernel_rfl) (by kernel_rfl)
theorem env51 : EnvOK Try.prog (E51 n) := envOK0 noPhi_ok rfl rfl
theorem par51 : EnvPar (E51 n) := envPar0 noPhi_par rfl
theorem FC51 : FCs Try.prog 51 (P51 n) := phiOf_FCs fun xs r h vs hv => FC.of_runG tabOK eqsOK (env51 n) (par51 n) mixed (fun _ => noScope_ok) Try.func51 (c := c51) (an := an51) (pks := pk51) (rks := rk51) (by kernel_rfl) (by kernel_rfl) hv ((S51_run n xs).symm.trans h)
abbrev R58 := Bool
abbrev K58 := St → Option R58
noncomputable def c58 : Code := bodyOf Try.f58
noncomputable def an58 : Ann := (.s .l (.s (.s .l (.j [0,1] .l .l)) (.s (.s .l (.j [] (.j [0,1,5] (.s (.s .l (.j [0,1,5] .l .l)) (.s (.j [0,1,5] (.s .l (.j [0,1,5] .l .l)) .l) .l)) .l) .l)) .l)))
def pk58 : List PK := [.c (.sl (.pair (.int .i64) (.pair (.int .i64) (.pair (.int .i64) (.int .i64))))),.c (.sl (.pair (.int .i64) (.pair (.int .i64) (.pair (.int .i64) (.int .i64)))))]
def rk58 : List RK := [.c .bool 4]
noncomputable def rt58 (st : St) : Option R58 := rtG rk58 st
noncomputable def E58 : Env := { T := tab,phi := noPhi,eff := fun _ => false,fuel := n.1,hold := n.2 }
noncomputable def kq58_3 : K58 := run (E58 n) (cB (cB (cB c58))) an58.snd.snd.snd rt58 (fun _ _ => none) rt58
noncomputable def xb58_5 : Nat → K58 := fun j s => bif Nat.beq j 0 then normC [] s (kq58_3 n) else (fun _ _ => none) j s
noncomputable def F58_6 : (K58) → K58 := fun K s => run (E58 n) (cA (cA (cB (cA (cB (cB c58)))))) an58.snd.snd.fst.snd.fst.fst (fun s => normC [0,1,5] s K) (xb58_5 n) rt58 s
noncomputable def L58_1 (m : Nat) (a0 : List (Int × Int × Int × Int)) (b1 : List (Int × Int × Int × Int)) (i5 : Int) : Option R58 := loopN (F58_6 n) m { tm := [.c (.sl (.pair (.int .i64) (.pair (.int .i64) (.pair (.int .i64) (.int .i64)))) a0 false),.c (.sl (.pair (.int .i64) (.pair (.int .i64) (.pair (.int .i64) (.int .i64)))) b1 false),uu,uu,uu,.c (.int .i64 i5),uu,uu,uu,uu,uu,uu,uu,uu,uu,uu,uu,uu,uu,uu,uu,uu,uu,uu,uu,uu],hp := emp }
theorem L58_1_eq (m1 : Nat) (a0 : List (Int × Int × Int × Int)) (b1 : List (Int × Int × Int × Int)) (i5 : Int) : L58_1 n (m1 + 1) a0 b1 i5 =
    (bif decide (i5 < (a0.length : Int)) then (idx a0 i5).bind fun x1' =>
      (idx b1 i5).bind fun x2' =>
      (bif (!((x1'.1 == x2'.1) && ((x1'.2.1 == x2'.2.1) && ((x1'.2.2.1 == x2'.2.2.1) && ((x1'.2.2.2 == x2'.2.2.2) && true))))) then some false
      else L58_1 n m1 a0 b1 (wr .i64 (i5 + 1)))
    else some true) := by kernel_rfl
noncomputable def S58 (a0 : List (Int × Int × Int × Int)) (b1 : List (Int × Int × Int × Int)) : Option R58 := run (E58 n) c58 an58 rt58 (fun _ _ => none) rt58 { tm := [.c (.sl (.pair (.int .i64) (.pair (.int .i64) (.pair (.int .i64) (.int .i64)))) a0 false),.c (.sl (.pair (.int .i64) (.pair (.int .i64) (.pair (.int .i64) (.int .i64)))) b1 false),uu,uu,uu,uu,uu,uu,uu,uu,uu,uu,uu,uu,uu,uu,uu,uu,uu,uu,uu,uu,uu,uu,uu,uu],hp := emp }
theorem S58_eq (a0 : List (Int × Int × Int × Int)) (b1 : List (Int × Int × Int × Int)) : S58 n a0 b1 =
    (bif ((a0.length : Int) != (b1.length : Int)) then some false
    else L58_1 n n.1 a0 b1 0) := by kernel_rfl
theorem S58_run (xs : pksDen pk58) : S58 n xs.1 xs.2.1 = runG (E58 n) noScope c58 an58 (rtG rk58) (fun _ _ => none) (rtG rk58) (st0 pk58 xs Try.f58.ntmps) := by kernel_rfl
noncomputable def P58 := phiOf pk58 rk58 (fun xs => S58 n xs.1 xs.2.1)
theorem call58 : CallOK Try.prog 58 := callOK_of Try.func58 (by kernel_rfl) (by kernel_rfl)
theorem env58 : EnvOK Try.prog (E58 n) := envOK0 noPhi_ok rfl rfl
theorem par58 : EnvPar (E58 n) := envPar0 noPhi_par rfl
theorem FC58 : FCs Try.prog 58 (P58 n) := phiOf_FCs fun xs r h vs hv => FC.of_runG tabOK eqsOK (env58 n) (par58 n) mixed (fun _ => noScope_ok) Try.func58 (c := c58) (an := an58) (pks := pk58) (rks := rk58) (by kernel_rfl) (by kernel_rfl) hv ((S58_run n xs).symm.trans h)
abbrev R46 := Bool
abbrev K46 := St → Option R46
noncomputable def c46 : Code := bodyOf Try.f46
noncomputable def an46 : Ann := (.s .l (.s (.s .l (.j [0,1] .l .l)) (.s (.s .l (.j [] (.j [0,1,5] (.s (.s .l (.j [0,1,5] .l .l)) (.s (.j [0,1,5] (.s .l (.j [0,1,5] .l .l)) .l) .l)) .l) .l)) .l)))
def pk46 : List PK := [.c (.sl (.int .i64)),.c (.sl (.int .i64))]
def rk46 : List RK := [.c .bool 4]
noncomputable def rt46 (st : St) : Option R46 := rtG rk46 st
noncomputable def E46 : Env := { T := tab,phi := noPhi,eff := fun _ => false,fuel := n.1,hold := n.2 }
noncomputable def kq46_3 : K46 := run (E46 n) (cB (cB (cB c46))) an46.snd.snd.snd rt46 (fun _ _ => none) rt46
noncomputable def xb46_5 : Nat → K46 := fun j s => bif Nat.beq j 0 then normC [] s (kq46_3 n) else (fun _ _ => none) j s
noncomputable def F46_6 : (K46) → K46 := fun K s => run (E46 n) (cA (cA (cB (cA (cB (cB c46)))))) an46.snd.snd.fst.snd.fst.fst (fun s => normC [0,1,5] s K) (xb46_5 n) rt46 s
noncomputable def L46_1 (m : Nat) (a0 : List Int) (b1 : List Int) (i5 : Int) : Option R46 := loopN (F46_6 n) m { tm := [.c (.sl (.int .i64) a0 false),.c (.sl (.int .i64) b1 false),uu,uu,uu,.c (.int .i64 i5),uu,uu,uu,uu,uu,uu,uu,uu,uu,uu,uu,uu,uu,uu,uu,uu,uu,uu,uu,uu],hp := emp }
theorem L46_1_eq (m1 : Nat) (a0 : List Int) (b1 : List Int) (i5 : Int) : L46_1 n (m1 + 1) a0 b1 i5 =
    (bif decide (i5 < (a0.length : Int)) then (idx a0 i5).bind fun x1' =>
      (idx b1 i5).bind fun x2' =>
      (bif (x1' != x2') then some false
      else L46_1 n m1 a0 b1 (wr .i64 (i5 + 1)))
    else some true) := by kernel_rfl
noncomputable def S46 (a0 : List Int) (b1 : List Int) : Option R46 := run (E46 n) c46 an46 rt46 (fun _ _ => none) rt46 { tm := [.c (.sl (.int .i64) a0 false),.c (.sl (.int .i64) b1 false),uu,uu,uu,uu,uu,uu,uu,uu,uu,uu,uu,uu,uu,uu,uu,uu,uu,uu,uu,uu,uu,uu,uu,uu],hp := emp }
theorem S46_eq (a0 : List Int) (b1 : List Int) : S46 n a0 b1 =
    (bif ((a0.length : Int) != (b1.length : Int)) then some false
    else L46_1 n n.1 a0 b1 0) := by kernel_rfl
theorem S46_run (xs : pksDen pk46) : S46 n xs.1 xs.2.1 = runG (E46 n) noScope c46 an46 (rtG rk46) (fun _ _ => none) (rtG rk46) (st0 pk46 xs Try.f46.ntmps) := by kernel_rfl
noncomputable def P46 := phiOf pk46 rk46 (fun xs => S46 n xs.1 xs.2.1)
theorem call46 : CallOK Try.prog 46 := callOK_of Try.func46 (by kernel_rfl) (by kernel_rfl)
theorem env46 : EnvOK Try.prog (E46 n) := envOK0 noPhi_ok rfl rfl
theorem par46 : EnvPar (E46 n) := envPar0 noPhi_par rfl
theorem FC46 : FCs Try.prog 46 (P46 n) := phiOf_FCs fun xs r h vs hv => FC.of_runG tabOK eqsOK (env46 n) (par46 n) mixed (fun _ => noScope_ok) Try.func46 (c := c46) (an := an46) (pks := pk46) (rks := rk46) (by kernel_rfl) (by kernel_rfl) hv ((S46_run n xs).symm.trans h)
abbrev R86 := Bool
noncomputable def c86 : Code := bodyOf Try.f86
noncomputable def an86 : Ann := .l
def pk86 : List PK := [.c (.pair (.int .i64) (.int .i64))]
def rk86 : List RK := [.c .bool 2]
noncomputable def rt86 (st : St) : Option R86 := rtG rk86 st
noncomputable def E86 : Env := { T := tab,phi := noPhi,eff := fun _ => false,fuel := n.1,hold := n.2 }
noncomputable def S86 (f0 : Int × Int) : Option R86 := run (E86 n) c86 an86 rt86 (fun _ _ => none) rt86 { tm := [.agg [.int .i64 f0.1,.int .i64 f0.2],uu,uu,uu,uu,uu,uu,uu,uu,uu,uu,uu,uu,uu,uu,uu,uu,uu,uu,uu,uu,uu,uu,uu],hp := emp }
theorem S86_eq (f0 : Int × Int) : S86 n f0 =
    ((bif (decide (f0.2 < 1) == false) then some (decide (f0.2 > 72))
      else some true)).bind fun b1' =>
    ((bif (b1' == false) then some (decide (f0.1 < 0))
      else some true)).bind fun b2' =>
    ((bif (b2' == false) then some (decide (f0.1 > wr .i64 (100 * f0.2)))
      else some true)).bind fun b3' =>
    some b3' := by kernel_rfl
theorem S86_run (xs : pksDen pk86) : S86 n xs.1 = runG (E86 n) noScope c86 an86 (rtG rk86) (fun _ _ => none) (rtG rk86) (st0 pk86 xs Try.f86.ntmps) := by kernel_rfl
noncomputable def P86 := phiOf pk86 rk86 (fun xs => S86 n xs.1)
theorem call86 : CallOK Try.prog 86 := callOK_of Try.func86 (by kernel_rfl) (by kernel_rfl)
theorem env86 : EnvOK Try.prog (E86 n) := envOK0 noPhi_ok rfl rfl
theorem par86 : EnvPar (E86 n) := envPar0 noPhi_par rfl
theorem FC86 : FCs Try.prog 86 (P86 n) := phiOf_FCs fun xs r h vs hv => FC.of_runG tabOK eqsOK (env86 n) (par86 n) mixed (fun _ => noScope_ok) Try.func86 (c := c86) (an := an86) (pks := pk86) (rks := rk86) (by kernel_rfl) (by kernel_rfl) hv ((S86_run n xs).symm.trans h)
end Go.Proofs.Ytombednapelokaa
