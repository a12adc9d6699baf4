/-
  MADE BY A PROGRAM: programs that the compiler makes of functions, and that it makes them.
-/
import Derived.Test.YtfplljcicihneaaGs
namespace Vm
open Go
open Go.Proofs
set_option maxRecDepth 100000
/-- cromlech/header.Ref -/
def p40 : Fn := ⟨4, [0, 2, 3, 9],
(.seq
(.reg ⟨[], [], [(1, .v (.c (.int .u64 (0)))), (2, .v (.c (.int .i64 (0))))]⟩)
(.seq
(.seq
(.reg ⟨[.lt 4 [] (.bin .lss (.s 0) (.c (.int .u64 (1))))], [([(4, false)], (.bin .gtr (.s 0) (.c (.int .u64 (9223372036854775807)))))], [(3, .v (.ite (.s 4) (.c (.bool true)) (.bin .gtr (.s 0) (.c (.int .u64 (9223372036854775807))))))]⟩)
(.cond (.s 3)
 (.seq
 (.reg ⟨[], [], [(1, .v (.c (.int .u64 (0)))), (2, .v (.c (.int .i64 (1))))]⟩)
 .ret)
 .skip))
(.seq
(.reg ⟨[], [], [(1, .v (.bin .add (.bin .mul (.c (.int .u64 (2))) (.s 0)) (.c (.int .u64 (1))))), (2, .v (.c (.int .i64 (0))))]⟩)
.ret))),
[(1, .v), (2, .v)]⟩
theorem c40 : compFn Try.prog fresh sig [.fz] [] Try.f40 = some p40 := by kernel_rfl
/-- cromlech/header.Address -/
def p57 : Fn := ⟨5, [0, 2, 3, 5, 12],
(.seq
(.reg ⟨[], [], [(1, .v (.c (.int .u64 (0)))), (2, .v (.c (.int .i64 (0))))]⟩)
(.seq
(.seq
(.reg ⟨[], [], [(3, .v (.bin .eql (.s 0) (.c (.int .u64 (0)))))]⟩)
(.cond (.s 3)
 (.seq
 (.reg ⟨[], [], [(1, .v (.c (.int .u64 (0)))), (2, .v (.c (.int .i64 (6))))]⟩)
 .ret)
 .skip))
(.seq
(.seq
(.reg ⟨[.lt 5 [] (.bin .eql (.bin .rem (.s 0) (.c (.int .u64 (2)))) (.c (.int .u64 (0))))], [([(5, false)], (.bin .eql (.s 0) (.c (.int .u64 (1)))))], [(4, .v (.ite (.s 5) (.c (.bool true)) (.bin .eql (.s 0) (.c (.int .u64 (1))))))]⟩)
(.cond (.s 4)
 (.seq
 (.reg ⟨[], [], [(1, .v (.c (.int .u64 (0)))), (2, .v (.c (.int .i64 (3))))]⟩)
 .ret)
 .skip))
(.seq
(.reg ⟨[], [], [(1, .v (.bin .quo (.s 0) (.c (.int .u64 (2))))), (2, .v (.c (.int .i64 (0))))]⟩)
.ret)))),
[(1, .v), (2, .v)]⟩
theorem c57 : compFn Try.prog fresh sig [.fz] [] Try.f57 = some p57 := by kernel_rfl
/-- cromlech/header.Unpack -/
def p60 : Fn := ⟨5, [0, 2, 3, 4, 20],
(.seq
(.reg ⟨[], [], [(1, .m [(.c (.int .i64 (0))), (.c (.int .i64 (0)))]), (2, .v (.c (.int .i64 (0))))]⟩)
(.seq
(.reg ⟨[], [], [(3, .m [(.fld (.ag [(.conv .i64 (.bin .rem (.bin .shr (.s 0) (.c (.int .u64 (1)))) (.c (.int .u64 (65536))))), (.conv .i64 (.bin .shr (.s 0) (.c (.int .u64 (17)))))]) 0), (.fld (.ag [(.conv .i64 (.bin .rem (.bin .shr (.s 0) (.c (.int .u64 (1)))) (.c (.int .u64 (65536))))), (.conv .i64 (.bin .shr (.s 0) (.c (.int .u64 (17)))))]) 1)])]⟩)
(.seq
(.seq
(.reg ⟨[.lt 5 [] (.bin .neq (.bin .rem (.s 0) (.c (.int .u64 (2)))) (.c (.int .u64 (0)))), .call 6 [(5, false)] (.id 91) false false [(.mm 3 0 2)]], [([(5, false)], (.un .not (.s 6)))], [(4, .v (.ite (.s 5) (.c (.bool true)) (.un .not (.s 6))))]⟩)
(.cond (.s 4)
 (.seq
 (.reg ⟨[], [], [(1, .m [(.fld (.ag [(.c (.int .i64 (0))), (.c (.int .i64 (0)))]) 0), (.fld (.ag [(.c (.int .i64 (0))), (.c (.int .i64 (0)))]) 1)]), (2, .v (.c (.int .i64 (3))))]⟩)
 .ret)
 .skip))
(.seq
(.reg ⟨[], [], [(1, .m [(.fld (.mm 3 0 2) 0), (.fld (.mm 3 0 2) 1)]), (2, .v (.c (.int .i64 (0))))]⟩)
.ret)))),
[(1, (.ag 2)), (2, .v)]⟩
theorem c60 : compFn Try.prog fresh sig [.fz] [] Try.f60 = some p60 := by kernel_rfl
/-- cromlech/cromlechref05.Address -/
def p64 : Fn := ⟨5, [0, 2, 3, 5, 12],
(.seq
(.reg ⟨[], [], [(1, .v (.c (.int .u64 (0)))), (2, .v (.c (.int .i64 (0))))]⟩)
(.seq
(.seq
(.reg ⟨[], [], [(3, .v (.bin .eql (.s 0) (.c (.int .u64 (0)))))]⟩)
(.cond (.s 3)
 (.seq
 (.reg ⟨[], [], [(1, .v (.c (.int .u64 (0)))), (2, .v (.c (.int .i64 (6))))]⟩)
 .ret)
 .skip))
(.seq
(.seq
(.reg ⟨[.lt 5 [] (.bin .eql (.bin .rem (.s 0) (.c (.int .u64 (2)))) (.c (.int .u64 (0))))], [([(5, false)], (.bin .eql (.s 0) (.c (.int .u64 (1)))))], [(4, .v (.ite (.s 5) (.c (.bool true)) (.bin .eql (.s 0) (.c (.int .u64 (1))))))]⟩)
(.cond (.s 4)
 (.seq
 (.reg ⟨[], [], [(1, .v (.c (.int .u64 (0)))), (2, .v (.c (.int .i64 (3))))]⟩)
 .ret)
 .skip))
(.seq
(.reg ⟨[], [], [(1, .v (.bin .quo (.s 0) (.c (.int .u64 (2))))), (2, .v (.c (.int .i64 (0))))]⟩)
.ret)))),
[(1, .v), (2, .v)]⟩
theorem c64 : compFn Try.prog fresh sig [.fz] [] Try.f64 = some p64 := by kernel_rfl
/-- cromlech/cromlechref05.Unpack -/
def p66 : Fn := ⟨7, [0, 2, 3, 4, 5, 6, 27],
(.seq
(.reg ⟨[], [], [(1, .m [(.c (.int .i64 (0))), (.c (.int .i64 (0)))]), (2, .v (.c (.int .i64 (0))))]⟩)
(.seq
(.reg ⟨[], [], [(3, .m [(.fld (.ag [(.conv .i64 (.bin .rem (.bin .quo (.s 0) (.c (.int .u64 (2)))) (.c (.int .u64 (65536))))), (.conv .i64 (.bin .rem (.bin .quo (.s 0) (.c (.int .u64 (131072)))) (.c (.int .u64 (65536)))))]) 0), (.fld (.ag [(.conv .i64 (.bin .rem (.bin .quo (.s 0) (.c (.int .u64 (2)))) (.c (.int .u64 (65536))))), (.conv .i64 (.bin .rem (.bin .quo (.s 0) (.c (.int .u64 (131072)))) (.c (.int .u64 (65536)))))]) 1)])]⟩)
(.seq
(.reg ⟨[.call 7 [] (.id 92) false false [(.mm 3 0 2)]], [], [(4, .v (.ext (.s 7) 0)), (5, .v (.ext (.s 7) 1))]⟩)
(.seq
(.seq
(.reg ⟨[.lt 8 [] (.bin .neq (.s 5) (.c (.int .i64 (0))))], [([(8, false)], (.bin .neq (.s 4) (.s 0)))], [(6, .v (.ite (.s 8) (.c (.bool true)) (.bin .neq (.s 4) (.s 0))))]⟩)
(.cond (.s 6)
 (.seq
 (.reg ⟨[], [], [(1, .m [(.fld (.ag [(.c (.int .i64 (0))), (.c (.int .i64 (0)))]) 0), (.fld (.ag [(.c (.int .i64 (0))), (.c (.int .i64 (0)))]) 1)]), (2, .v (.c (.int .i64 (3))))]⟩)
 .ret)
 .skip))
(.seq
(.reg ⟨[], [], [(1, .m [(.fld (.mm 3 0 2) 0), (.fld (.mm 3 0 2) 1)]), (2, .v (.c (.int .i64 (0))))]⟩)
.ret))))),
[(1, (.ag 2)), (2, .v)]⟩
theorem c66 : compFn Try.prog fresh sig [.fz] [] Try.f66 = some p66 := by kernel_rfl
/-- cromlech/cromlechref05.Ref -/
def p83 : Fn := ⟨4, [0, 2, 3, 9],
(.seq
(.reg ⟨[], [], [(1, .v (.c (.int .u64 (0)))), (2, .v (.c (.int .i64 (0))))]⟩)
(.seq
(.seq
(.reg ⟨[.lt 4 [] (.bin .lss (.s 0) (.c (.int .u64 (1))))], [([(4, false)], (.bin .gtr (.s 0) (.c (.int .u64 (9223372036854775807)))))], [(3, .v (.ite (.s 4) (.c (.bool true)) (.bin .gtr (.s 0) (.c (.int .u64 (9223372036854775807))))))]⟩)
(.cond (.s 3)
 (.seq
 (.reg ⟨[], [], [(1, .v (.c (.int .u64 (0)))), (2, .v (.c (.int .i64 (1))))]⟩)
 .ret)
 .skip))
(.seq
(.reg ⟨[], [], [(1, .v (.bin .add (.bin .mul (.c (.int .u64 (2))) (.s 0)) (.c (.int .u64 (1))))), (2, .v (.c (.int .i64 (0))))]⟩)
.ret))),
[(1, .v), (2, .v)]⟩
theorem c83 : compFn Try.prog fresh sig [.fz] [] Try.f83 = some p83 := by kernel_rfl
/-- cromlech/header.Right -/
def p91 : Fn := ⟨3, [0, 1, 2],
(.seq
(.reg ⟨[], [], [(1, .m [(.fld (.sz (.s 0) 2) 0), (.fld (.sz (.s 0) 2) 1)]), (2, .v (.c (.bool false)))]⟩)
(.seq
(.reg ⟨[.lt 3 [] (.bin .geq (.m 1 0) (.c (.int .i64 (0)))), .lt 4 [] (.ite (.s 3) (.bin .leq (.m 1 0) (.c (.int .i64 (255)))) (.c (.bool false))), .lt 5 [] (.ite (.s 4) (.bin .geq (.m 1 1) (.c (.int .i64 (0)))) (.c (.bool false)))], [([(3, true)], (.bin .leq (.m 1 0) (.c (.int .i64 (255))))), ([(4, true)], (.bin .geq (.m 1 1) (.c (.int .i64 (0))))), ([(5, true)], (.bin .leq (.m 1 1) (.m 1 0)))], [(2, .v (.ite (.s 5) (.bin .leq (.m 1 1) (.m 1 0)) (.c (.bool false))))]⟩)
.ret)),
[(2, .v)]⟩
theorem c91 : compFn Try.prog fresh sig [.fz] [] Try.f91 = some p91 := by kernel_rfl
/-- cromlech/cromlechref05.Pack -/
def p92 : Fn := ⟨6, [0, 1, 2, 3, 4, 8],
(.seq
(.reg ⟨[], [], [(1, .m [(.fld (.sz (.s 0) 2) 0), (.fld (.sz (.s 0) 2) 1)]), (2, .v (.c (.int .u64 (0)))), (3, .v (.c (.int .i64 (0))))]⟩)
(.seq
(.reg ⟨[.call 6 [] (.id 102) false false [(.mm 1 0 2)]], [], [(4, .v (.s 6))]⟩)
(.seq
(.seq
(.reg ⟨[], [], [(5, .v (.un .not (.s 4)))]⟩)
(.cond (.s 5)
 (.seq
 (.reg ⟨[], [], [(2, .v (.c (.int .u64 (0)))), (3, .v (.c (.int .i64 (1))))]⟩)
 .ret)
 .skip))
(.seq
(.reg ⟨[], [], [(2, .v (.bin .mul (.c (.int .u64 (2))) (.bin .add (.conv .u64 (.m 1 0)) (.bin .mul (.c (.int .u64 (65536))) (.conv .u64 (.m 1 1)))))), (3, .v (.c (.int .i64 (0))))]⟩)
.ret)))),
[(2, .v), (3, .v)]⟩
theorem c92 : compFn Try.prog fresh sig [.fz] [] Try.f92 = some p92 := by kernel_rfl
/-- cromlech/cromlechref05.Right -/
def p102 : Fn := ⟨3, [0, 1, 2],
(.seq
(.reg ⟨[], [], [(1, .m [(.fld (.sz (.s 0) 2) 0), (.fld (.sz (.s 0) 2) 1)]), (2, .v (.c (.bool false)))]⟩)
(.seq
(.reg ⟨[.lt 3 [] (.bin .geq (.m 1 0) (.c (.int .i64 (0)))), .lt 4 [] (.ite (.s 3) (.bin .leq (.m 1 0) (.c (.int .i64 (255)))) (.c (.bool false))), .lt 5 [] (.ite (.s 4) (.bin .geq (.m 1 1) (.c (.int .i64 (0)))) (.c (.bool false)))], [([(3, true)], (.bin .leq (.m 1 0) (.c (.int .i64 (255))))), ([(4, true)], (.bin .geq (.m 1 1) (.c (.int .i64 (0))))), ([(5, true)], (.bin .leq (.m 1 1) (.m 1 0)))], [(2, .v (.ite (.s 5) (.bin .leq (.m 1 1) (.m 1 0)) (.c (.bool false))))]⟩)
.ret)),
[(2, .v)]⟩
theorem c102 : compFn Try.prog fresh sig [.fz] [] Try.f102 = some p102 := by kernel_rfl
end Vm
