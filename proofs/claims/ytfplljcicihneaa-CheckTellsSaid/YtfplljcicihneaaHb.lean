/-
  MADE BY A PROGRAM: programs that the compiler makes of functions, and that it makes them.
-/
import Derived.Test.YtfplljcicihneaaGs
namespace Vm
open Go
open Go.Proofs
set_option maxRecDepth 100000
/-- cromlech/cromlechref07.Address -/
def p37 : Fn := ⟨11, [0, 1, 2, 3, 4, 5, 6, 12, 7, 8, 28],
(.seq
(.reg ⟨[], [], [(2, .m [(.fld (.sz (.s 0) 7) 0), (.fld (.sz (.s 0) 7) 1), (.fld (.sz (.s 0) 7) 2), (.fld (.sz (.s 0) 7) 3), (.fld (.sz (.s 0) 7) 4), (.fld (.sz (.s 0) 7) 5), (.fld (.sz (.s 0) 7) 6)]), (3, .m [(.fld (.sz (.s 1) 2) 0), (.fld (.sz (.s 1) 2) 1)]), (4, .v (.c (.int .u64 (0)))), (5, .v (.c (.int .i64 (0))))]⟩)
(.seq
(.reg ⟨[.call 11 [] (.id 63) false false [(.mm 2 0 7)]], [], [(6, .v (.s 11))]⟩)
(.seq
(.seq
(.reg ⟨[], [], [(7, .v (.un .not (.s 6)))]⟩)
(.cond (.s 7)
 (.seq
 (.reg ⟨[], [], [(4, .v (.c (.int .u64 (0)))), (5, .v (.c (.int .i64 (1))))]⟩)
 .ret)
 .skip))
(.seq
(.reg ⟨[.call 12 [] (.id 77) false false [(.mm 2 0 7), (.m 3 0)]], [], [(8, .v (.ext (.s 12) 0)), (9, .v (.ext (.s 12) 1))]⟩)
(.seq
(.seq
(.reg ⟨[.lt 13 [] (.bin .lss (.m 3 1) (.c (.int .i64 (0))))], [([(13, false)], (.bin .geq (.m 3 1) (.s 9)))], [(10, .v (.ite (.s 13) (.c (.bool true)) (.bin .geq (.m 3 1) (.s 9))))]⟩)
(.cond (.s 10)
 (.seq
 (.reg ⟨[], [], [(4, .v (.c (.int .u64 (0)))), (5, .v (.c (.int .i64 (6))))]⟩)
 .ret)
 .skip))
(.seq
(.reg ⟨[], [], [(4, .v (.bin .add (.s 8) (.conv .u64 (.m 3 1)))), (5, .v (.c (.int .i64 (0))))]⟩)
.ret)))))),
[(4, .v), (5, .v)]⟩
theorem c37 : compFn Try.prog fresh sig [.fz, .fz] [] Try.f37 = some p37 := by kernel_rfl
/-- cromlech/places.Address -/
def p39 : Fn := ⟨10, [0, 1, 2, 3, 4, 5, 9, 17, 6, 33],
(.seq
(.reg ⟨[], [], [(2, .m [(.fld (.sz (.s 0) 7) 0), (.fld (.sz (.s 0) 7) 1), (.fld (.sz (.s 0) 7) 2), (.fld (.sz (.s 0) 7) 3), (.fld (.sz (.s 0) 7) 4), (.fld (.sz (.s 0) 7) 5), (.fld (.sz (.s 0) 7) 6)]), (3, .m [(.fld (.sz (.s 1) 2) 0), (.fld (.sz (.s 1) 2) 1)]), (4, .v (.c (.int .u64 (0)))), (5, .v (.c (.int .i64 (0))))]⟩)
(.seq
(.seq
(.reg ⟨[.call 10 [] (.id 55) false false [(.mm 2 0 7)]], [], [(6, .v (.un .not (.s 10)))]⟩)
(.cond (.s 6)
 (.seq
 (.reg ⟨[], [], [(4, .v (.c (.int .u64 (0)))), (5, .v (.c (.int .i64 (1))))]⟩)
 .ret)
 .skip))
(.seq
(.seq
(.reg ⟨[.lt 11 [] (.bin .lss (.m 3 0) (.c (.int .i64 (1))))], [([(11, false)], (.bin .gtr (.m 3 0) (.c (.int .i64 (4)))))], [(7, .v (.ite (.s 11) (.c (.bool true)) (.bin .gtr (.m 3 0) (.c (.int .i64 (4))))))]⟩)
(.cond (.s 7)
 (.seq
 (.reg ⟨[], [], [(4, .v (.c (.int .u64 (0)))), (5, .v (.c (.int .i64 (6))))]⟩)
 .ret)
 .skip))
(.seq
(.reg ⟨[.call 12 [] (.id 78) false false [(.mm 2 0 7)]], [], [(8, .m [(.fld (.sz (.ai (.s 12) (.bin .sub (.m 3 0) (.c (.int .i64 (1)))) 4 2 true) 2) 0), (.fld (.sz (.ai (.s 12) (.bin .sub (.m 3 0) (.c (.int .i64 (1)))) 4 2 true) 2) 1)])]⟩)
(.seq
(.seq
(.reg ⟨[.lt 13 [] (.bin .lss (.m 3 1) (.c (.int .i64 (0))))], [([(13, false)], (.bin .geq (.m 3 1) (.m 8 1)))], [(9, .v (.ite (.s 13) (.c (.bool true)) (.bin .geq (.m 3 1) (.m 8 1))))]⟩)
(.cond (.s 9)
 (.seq
 (.reg ⟨[], [], [(4, .v (.c (.int .u64 (0)))), (5, .v (.c (.int .i64 (6))))]⟩)
 .ret)
 .skip))
(.seq
(.reg ⟨[], [], [(4, .v (.bin .add (.m 8 0) (.conv .u64 (.m 3 1)))), (5, .v (.c (.int .i64 (0))))]⟩)
.ret)))))),
[(4, .v), (5, .v)]⟩
theorem c39 : compFn Try.prog fresh sig [.fz, .fz] [] Try.f39 = some p39 := by kernel_rfl
/-- cromlech/places.Right -/
def p55 : Fn := ⟨4, [0, 1, 2, 25],
(.seq
(.reg ⟨[], [], [(1, .m [(.fld (.sz (.s 0) 7) 0), (.fld (.sz (.s 0) 7) 1), (.fld (.sz (.s 0) 7) 2), (.fld (.sz (.s 0) 7) 3), (.fld (.sz (.s 0) 7) 4), (.fld (.sz (.s 0) 7) 5), (.fld (.sz (.s 0) 7) 6)]), (2, .v (.c (.bool false)))]⟩)
(.seq
(.seq
(.reg ⟨[.lt 4 [] (.bin .lss (.m 1 1) (.c (.int .i64 (0)))), .lt 5 [] (.ite (.s 4) (.c (.bool true)) (.bin .gtr (.m 1 1) (.c (.int .i64 (4096))))), .lt 6 [] (.ite (.s 5) (.c (.bool true)) (.bin .lss (.m 1 0) (.c (.int .u64 (1)))))], [([(4, false)], (.bin .gtr (.m 1 1) (.c (.int .i64 (4096))))), ([(5, false)], (.bin .lss (.m 1 0) (.c (.int .u64 (1))))), ([(6, false)], (.bin .gtr (.m 1 0) (.bin .sub (.c (.int .u64 (9223372036854775808))) (.bin .mul (.c (.int .u64 (2))) (.conv .u64 (.m 1 1))))))], [(3, .v (.ite (.s 6) (.c (.bool true)) (.bin .gtr (.m 1 0) (.bin .sub (.c (.int .u64 (9223372036854775808))) (.bin .mul (.c (.int .u64 (2))) (.conv .u64 (.m 1 1)))))))]⟩)
(.cond (.s 3)
 (.seq
 (.reg ⟨[], [], [(2, .v (.c (.bool false)))]⟩)
 .ret)
 .skip))
(.seq
(.reg ⟨[.lt 7 [] (.bin .eql (.m 1 2) (.c (.int .i64 (0)))), .lt 8 [] (.ite (.s 7) (.c (.bool true)) (.bin .eql (.m 1 2) (.c (.int .i64 (1))))), .call 9 [(8, true)] (.id 89) false false [(.m 1 3), (.m 1 4), (.m 1 1)], .lt 10 [] (.ite (.s 8) (.s 9) (.c (.bool false))), .call 11 [(10, true)] (.id 89) false false [(.m 1 5), (.m 1 6), (.m 1 1)]], [([(7, false)], (.bin .eql (.m 1 2) (.c (.int .i64 (1)))))], [(2, .v (.ite (.s 10) (.s 11) (.c (.bool false))))]⟩)
.ret))),
[(2, .v)]⟩
theorem c55 : compFn Try.prog fresh sig [.fz] [] Try.f55 = some p55 := by kernel_rfl
/-- cromlech/places.Find -/
def p58 : Fn := ⟨12, [0, 1, 2, 4, 5, 10, 14, 15, 7, 6, 13, 31],
(.seq
(.reg ⟨[], [], [(2, .m [(.fld (.sz (.s 0) 7) 0), (.fld (.sz (.s 0) 7) 1), (.fld (.sz (.s 0) 7) 2), (.fld (.sz (.s 0) 7) 3), (.fld (.sz (.s 0) 7) 4), (.fld (.sz (.s 0) 7) 5), (.fld (.sz (.s 0) 7) 6)]), (3, .m [(.c (.int .i64 (0))), (.c (.int .i64 (0)))]), (4, .v (.c (.int .i64 (0))))]⟩)
(.seq
(.seq
(.reg ⟨[.call 12 [] (.id 55) false false [(.mm 2 0 7)]], [], [(5, .v (.un .not (.s 12)))]⟩)
(.cond (.s 5)
 (.seq
 (.reg ⟨[], [], [(3, .m [(.fld (.ag [(.c (.int .i64 (0))), (.c (.int .i64 (0)))]) 0), (.fld (.ag [(.c (.int .i64 (0))), (.c (.int .i64 (0)))]) 1)]), (4, .v (.c (.int .i64 (1))))]⟩)
 .ret)
 .skip))
(.seq
(.seq
(.reg ⟨[.call 10 [] (.id 78) false false [(.mm 2 0 7)]], [], [(6, .v (.c (.int .i64 (0))))]⟩)
(.block 0
 (.loop [0, 1, 2, 3, 4, 5, 6, 10]
  (.seq
  (.reg ⟨[], [], [(7, .v (.bin .lss (.s 6) (.c (.int .i64 (4)))))]⟩)
  (.seq
  (.cond (.s 7)
   .skip
   (.exit 0))
  (.seq
  (.block 1
   (.seq
   (.reg ⟨[], [], [(8, .m [(.fld (.sz (.ai (.s 10) (.s 6) 4 2 true) 2) 0), (.fld (.sz (.ai (.s 10) (.s 6) 4 2 true) 2) 1)]), (9, .v (.s 6))]⟩)
   (.seq
   (.reg ⟨[.lt 13 [] (.bin .geq (.s 1) (.m 8 0))], [([(13, true)], (.bin .lss (.bin .sub (.s 1) (.m 8 0)) (.conv .u64 (.m 8 1))))], [(11, .v (.ite (.s 13) (.bin .lss (.bin .sub (.s 1) (.m 8 0)) (.conv .u64 (.m 8 1))) (.c (.bool false))))]⟩)
   (.cond (.s 11)
    (.seq
    (.reg ⟨[], [], [(3, .m [(.fld (.ag [(.bin .add (.s 9) (.c (.int .i64 (1)))), (.conv .i64 (.bin .sub (.s 1) (.m 8 0)))]) 0), (.fld (.ag [(.bin .add (.s 9) (.c (.int .i64 (1)))), (.conv .i64 (.bin .sub (.s 1) (.m 8 0)))]) 1)]), (4, .v (.c (.int .i64 (0))))]⟩)
    .ret)
    .skip))))
  (.reg ⟨[], [], [(6, .v (.bin .add (.s 6) (.c (.int .i64 (1)))))]⟩)))))))
(.seq
(.reg ⟨[], [], [(3, .m [(.fld (.ag [(.c (.int .i64 (0))), (.c (.int .i64 (0)))]) 0), (.fld (.ag [(.c (.int .i64 (0))), (.c (.int .i64 (0)))]) 1)]), (4, .v (.c (.int .i64 (6))))]⟩)
.ret)))),
[(3, (.ag 2)), (4, .v)]⟩
theorem c58 : compFn Try.prog fresh sig [.fz, .fz] [] Try.f58 = some p58 := by kernel_rfl
/-- cromlech/places.Room -/
def p61 : Fn := ⟨4, [0, 1, 2, 5],
(.seq
(.reg ⟨[], [], [(1, .m [(.fld (.sz (.s 0) 7) 0), (.fld (.sz (.s 0) 7) 1), (.fld (.sz (.s 0) 7) 2), (.fld (.sz (.s 0) 7) 3), (.fld (.sz (.s 0) 7) 4), (.fld (.sz (.s 0) 7) 5), (.fld (.sz (.s 0) 7) 6)]), (2, .v (.c (.int .i64 (0))))]⟩)
(.seq
(.seq
(.reg ⟨[.call 4 [] (.id 55) false false [(.mm 1 0 7)]], [], [(3, .v (.un .not (.s 4)))]⟩)
(.cond (.s 3)
 (.seq
 (.reg ⟨[], [], [(2, .v (.c (.int .i64 (0))))]⟩)
 .ret)
 .skip))
(.seq
(.reg ⟨[], [], [(2, .v (.bin .sub (.bin .sub (.m 1 1) (.m 1 3)) (.m 1 4)))]⟩)
.ret))),
[(2, .v)]⟩
theorem c61 : compFn Try.prog fresh sig [.fz] [] Try.f61 = some p61 := by kernel_rfl
/-- cromlech/cromlechref07.Right -/
def p63 : Fn := ⟨5, [0, 1, 2, 35, 53],
(.seq
(.reg ⟨[], [], [(1, .m [(.fld (.sz (.s 0) 7) 0), (.fld (.sz (.s 0) 7) 1), (.fld (.sz (.s 0) 7) 2), (.fld (.sz (.s 0) 7) 3), (.fld (.sz (.s 0) 7) 4), (.fld (.sz (.s 0) 7) 5), (.fld (.sz (.s 0) 7) 6)]), (2, .v (.c (.bool false)))]⟩)
(.seq
(.seq
(.reg ⟨[.lt 5 [] (.bin .lss (.m 1 0) (.c (.int .u64 (1)))), .lt 6 [] (.ite (.s 5) (.c (.bool true)) (.bin .lss (.m 1 1) (.c (.int .i64 (0))))), .lt 7 [] (.ite (.s 6) (.c (.bool true)) (.bin .gtr (.m 1 1) (.c (.int .i64 (4096))))), .lt 8 [] (.ite (.s 7) (.c (.bool true)) (.bin .gtr (.m 1 0) (.bin .sub (.c (.int .u64 (9223372036854775808))) (.bin .mul (.c (.int .u64 (2))) (.conv .u64 (.m 1 1)))))), .lt 9 [] (.ite (.s 8) (.c (.bool true)) (.bin .lss (.m 1 2) (.c (.int .i64 (0)))))], [([(5, false)], (.bin .lss (.m 1 1) (.c (.int .i64 (0))))), ([(6, false)], (.bin .gtr (.m 1 1) (.c (.int .i64 (4096))))), ([(7, false)], (.bin .gtr (.m 1 0) (.bin .sub (.c (.int .u64 (9223372036854775808))) (.bin .mul (.c (.int .u64 (2))) (.conv .u64 (.m 1 1)))))), ([(8, false)], (.bin .lss (.m 1 2) (.c (.int .i64 (0))))), ([(9, false)], (.bin .gtr (.m 1 2) (.c (.int .i64 (1)))))], [(3, .v (.ite (.s 9) (.c (.bool true)) (.bin .gtr (.m 1 2) (.c (.int .i64 (1))))))]⟩)
(.cond (.s 3)
 (.seq
 (.reg ⟨[], [], [(2, .v (.c (.bool false)))]⟩)
 .ret)
 .skip))
(.seq
(.seq
(.reg ⟨[.lt 10 [] (.bin .lss (.m 1 3) (.c (.int .i64 (0)))), .lt 11 [] (.ite (.s 10) (.c (.bool true)) (.bin .lss (.m 1 4) (.c (.int .i64 (0))))), .lt 12 [] (.ite (.s 11) (.c (.bool true)) (.bin .lss (.m 1 5) (.c (.int .i64 (0)))))], [([(10, false)], (.bin .lss (.m 1 4) (.c (.int .i64 (0))))), ([(11, false)], (.bin .lss (.m 1 5) (.c (.int .i64 (0))))), ([(12, false)], (.bin .lss (.m 1 6) (.c (.int .i64 (0)))))], [(4, .v (.ite (.s 12) (.c (.bool true)) (.bin .lss (.m 1 6) (.c (.int .i64 (0))))))]⟩)
(.cond (.s 4)
 (.seq
 (.reg ⟨[], [], [(2, .v (.c (.bool false)))]⟩)
 .ret)
 .skip))
(.seq
(.reg ⟨[.lt 13 [] (.bin .leq (.m 1 3) (.m 1 1)), .lt 14 [] (.ite (.s 13) (.bin .leq (.m 1 4) (.bin .sub (.m 1 1) (.m 1 3))) (.c (.bool false))), .lt 15 [] (.ite (.s 14) (.bin .leq (.m 1 5) (.m 1 1)) (.c (.bool false)))], [([(13, true)], (.bin .leq (.m 1 4) (.bin .sub (.m 1 1) (.m 1 3)))), ([(14, true)], (.bin .leq (.m 1 5) (.m 1 1))), ([(15, true)], (.bin .leq (.m 1 6) (.bin .sub (.m 1 1) (.m 1 5))))], [(2, .v (.ite (.s 15) (.bin .leq (.m 1 6) (.bin .sub (.m 1 1) (.m 1 5))) (.c (.bool false))))]⟩)
.ret)))),
[(2, .v)]⟩
theorem c63 : compFn Try.prog fresh sig [.fz] [] Try.f63 = some p63 := by kernel_rfl
/-- cromlech/cromlechref07.Find -/
def p65 : Fn := ⟨12, [0, 1, 2, 4, 5, 6, 13, 7, 16, 8, 9, 35],
(.seq
(.reg ⟨[], [], [(2, .m [(.fld (.sz (.s 0) 7) 0), (.fld (.sz (.s 0) 7) 1), (.fld (.sz (.s 0) 7) 2), (.fld (.sz (.s 0) 7) 3), (.fld (.sz (.s 0) 7) 4), (.fld (.sz (.s 0) 7) 5), (.fld (.sz (.s 0) 7) 6)]), (3, .m [(.c (.int .i64 (0))), (.c (.int .i64 (0)))]), (4, .v (.c (.int .i64 (0))))]⟩)
(.seq
(.reg ⟨[.call 12 [] (.id 63) false false [(.mm 2 0 7)]], [], [(5, .v (.s 12))]⟩)
(.seq
(.seq
(.reg ⟨[], [], [(6, .v (.un .not (.s 5)))]⟩)
(.cond (.s 6)
 (.seq
 (.reg ⟨[], [], [(3, .m [(.fld (.ag [(.c (.int .i64 (0))), (.c (.int .i64 (0)))]) 0), (.fld (.ag [(.c (.int .i64 (0))), (.c (.int .i64 (0)))]) 1)]), (4, .v (.c (.int .i64 (1))))]⟩)
 .ret)
 .skip))
(.seq
(.seq
(.reg ⟨[], [], [(7, .v (.c (.int .i64 (1))))]⟩)
(.block 0
 (.loop [0, 1, 2, 3, 4, 5, 6, 7]
  (.seq
  (.seq
  (.reg ⟨[], [], [(8, .v (.bin .leq (.s 7) (.c (.int .i64 (4)))))]⟩)
  (.cond (.s 8)
   .skip
   (.exit 0)))
  (.seq
  (.block 1
   (.seq
   (.reg ⟨[.call 13 [] (.id 77) false false [(.mm 2 0 7), (.s 7)]], [], [(9, .v (.ext (.s 13) 0)), (10, .v (.ext (.s 13) 1))]⟩)
   (.seq
   (.reg ⟨[.lt 14 [] (.bin .geq (.s 1) (.s 9))], [([(14, true)], (.bin .lss (.s 1) (.bin .add (.s 9) (.conv .u64 (.s 10)))))], [(11, .v (.ite (.s 14) (.bin .lss (.s 1) (.bin .add (.s 9) (.conv .u64 (.s 10)))) (.c (.bool false))))]⟩)
   (.cond (.s 11)
    (.seq
    (.reg ⟨[], [], [(3, .m [(.fld (.ag [(.one (.s 7)), (.conv .i64 (.bin .sub (.s 1) (.s 9)))]) 0), (.fld (.ag [(.one (.s 7)), (.conv .i64 (.bin .sub (.s 1) (.s 9)))]) 1)]), (4, .v (.c (.int .i64 (0))))]⟩)
    .ret)
    .skip))))
  (.reg ⟨[], [], [(7, .v (.bin .add (.s 7) (.c (.int .i64 (1)))))]⟩))))))
(.seq
(.reg ⟨[], [], [(3, .m [(.fld (.ag [(.c (.int .i64 (0))), (.c (.int .i64 (0)))]) 0), (.fld (.ag [(.c (.int .i64 (0))), (.c (.int .i64 (0)))]) 1)]), (4, .v (.c (.int .i64 (6))))]⟩)
.ret))))),
[(3, (.ag 2)), (4, .v)]⟩
theorem c65 : compFn Try.prog fresh sig [.fz, .fz] [] Try.f65 = some p65 := by kernel_rfl
/-- cromlech/cromlechref07.addresses -/
def p77 : Fn := ⟨12, [0, 1, 2, 4, 5, 6, 7, 28, 27, 33, 45, 50],
(.seq
(.reg ⟨[], [], [(2, .m [(.fld (.sz (.s 0) 7) 0), (.fld (.sz (.s 0) 7) 1), (.fld (.sz (.s 0) 7) 2), (.fld (.sz (.s 0) 7) 3), (.fld (.sz (.s 0) 7) 4), (.fld (.sz (.s 0) 7) 5), (.fld (.sz (.s 0) 7) 6)]), (3, .v (.c (.int .u64 (0)))), (4, .v (.c (.int .i64 (0))))]⟩)
(.seq
(.reg ⟨[], [], [(5, .v (.bin .add (.m 2 0) (.conv .u64 (.bin .mul (.m 2 2) (.m 2 1)))))]⟩)
(.seq
(.reg ⟨[], [], [(6, .v (.bin .add (.m 2 0) (.conv .u64 (.bin .mul (.bin .sub (.c (.int .i64 (1))) (.m 2 2)) (.m 2 1)))))]⟩)
(.seq
(.seq
(.reg ⟨[], [], [(8, .v (.s 1))]⟩)
(.block 0
 (.seq
 (.reg ⟨[], [], [(7, .v (.bin .eql (.s 8) (.c (.int .i64 (1)))))]⟩)
 (.cond (.s 7)
  (.seq
  (.reg ⟨[], [], [(3, .v (.s 5)), (4, .v (.m 2 3))]⟩)
  .ret)
  (.seq
  (.reg ⟨[], [], [(9, .v (.bin .eql (.s 8) (.c (.int .i64 (2)))))]⟩)
  (.cond (.s 9)
   (.seq
   (.reg ⟨[], [], [(3, .v (.bin .add (.s 5) (.conv .u64 (.bin .sub (.m 2 1) (.m 2 4))))), (4, .v (.m 2 4))]⟩)
   .ret)
   (.seq
   (.reg ⟨[], [], [(10, .v (.bin .eql (.s 8) (.c (.int .i64 (3)))))]⟩)
   (.cond (.s 10)
    (.seq
    (.reg ⟨[], [], [(3, .v (.s 6)), (4, .v (.m 2 5))]⟩)
    .ret)
    (.seq
    (.reg ⟨[], [], [(11, .v (.bin .eql (.s 8) (.c (.int .i64 (4)))))]⟩)
    (.cond (.s 11)
     (.seq
     (.reg ⟨[], [], [(3, .v (.bin .add (.s 6) (.conv .u64 (.bin .sub (.m 2 1) (.m 2 6))))), (4, .v (.m 2 6))]⟩)
     .ret)
     .skip))))))))))
(.seq
(.reg ⟨[], [], [(3, .v (.c (.int .u64 (0)))), (4, .v (.c (.int .i64 (0))))]⟩)
.ret))))),
[(3, .v), (4, .v)]⟩
theorem c77 : compFn Try.prog fresh sig [.fz, .fz] [] Try.f77 = some p77 := by kernel_rfl
/-- cromlech/places.spans -/
def p78 : Fn := ⟨3, [0, 1, 2],
(.seq
(.reg ⟨[], [], [(1, .m [(.fld (.sz (.s 0) 7) 0), (.fld (.sz (.s 0) 7) 1), (.fld (.sz (.s 0) 7) 2), (.fld (.sz (.s 0) 7) 3), (.fld (.sz (.s 0) 7) 4), (.fld (.sz (.s 0) 7) 5), (.fld (.sz (.s 0) 7) 6)]), (2, .m [(.c (.int .u64 (0))), (.c (.int .i64 (0))), (.c (.int .u64 (0))), (.c (.int .i64 (0))), (.c (.int .u64 (0))), (.c (.int .i64 (0))), (.c (.int .u64 (0))), (.c (.int .i64 (0)))])]⟩)
(.seq
(.reg ⟨[.call 3 [] (.id 99) false false [(.mm 1 0 7), (.c (.int .i64 (1)))], .call 4 [] (.id 99) false false [(.mm 1 0 7), (.c (.int .i64 (2)))], .call 5 [] (.id 99) false false [(.mm 1 0 7), (.c (.int .i64 (3)))], .call 6 [] (.id 99) false false [(.mm 1 0 7), (.c (.int .i64 (4)))]], [], [(2, .m [(.fld (.ag [(.fld (.ag [(.one (.s 3)), (.m 1 3)]) 0), (.fld (.ag [(.one (.s 3)), (.m 1 3)]) 1), (.fld (.ag [(.one (.s 4)), (.m 1 4)]) 0), (.fld (.ag [(.one (.s 4)), (.m 1 4)]) 1), (.fld (.ag [(.one (.s 5)), (.m 1 5)]) 0), (.fld (.ag [(.one (.s 5)), (.m 1 5)]) 1), (.fld (.ag [(.one (.s 6)), (.m 1 6)]) 0), (.fld (.ag [(.one (.s 6)), (.m 1 6)]) 1)]) 0), (.fld (.ag [(.fld (.ag [(.one (.s 3)), (.m 1 3)]) 0), (.fld (.ag [(.one (.s 3)), (.m 1 3)]) 1), (.fld (.ag [(.one (.s 4)), (.m 1 4)]) 0), (.fld (.ag [(.one (.s 4)), (.m 1 4)]) 1), (.fld (.ag [(.one (.s 5)), (.m 1 5)]) 0), (.fld (.ag [(.one (.s 5)), (.m 1 5)]) 1), (.fld (.ag [(.one (.s 6)), (.m 1 6)]) 0), (.fld (.ag [(.one (.s 6)), (.m 1 6)]) 1)]) 1), (.fld (.ag [(.fld (.ag [(.one (.s 3)), (.m 1 3)]) 0), (.fld (.ag [(.one (.s 3)), (.m 1 3)]) 1), (.fld (.ag [(.one (.s 4)), (.m 1 4)]) 0), (.fld (.ag [(.one (.s 4)), (.m 1 4)]) 1), (.fld (.ag [(.one (.s 5)), (.m 1 5)]) 0), (.fld (.ag [(.one (.s 5)), (.m 1 5)]) 1), (.fld (.ag [(.one (.s 6)), (.m 1 6)]) 0), (.fld (.ag [(.one (.s 6)), (.m 1 6)]) 1)]) 2), (.fld (.ag [(.fld (.ag [(.one (.s 3)), (.m 1 3)]) 0), (.fld (.ag [(.one (.s 3)), (.m 1 3)]) 1), (.fld (.ag [(.one (.s 4)), (.m 1 4)]) 0), (.fld (.ag [(.one (.s 4)), (.m 1 4)]) 1), (.fld (.ag [(.one (.s 5)), (.m 1 5)]) 0), (.fld (.ag [(.one (.s 5)), (.m 1 5)]) 1), (.fld (.ag [(.one (.s 6)), (.m 1 6)]) 0), (.fld (.ag [(.one (.s 6)), (.m 1 6)]) 1)]) 3), (.fld (.ag [(.fld (.ag [(.one (.s 3)), (.m 1 3)]) 0), (.fld (.ag [(.one (.s 3)), (.m 1 3)]) 1), (.fld (.ag [(.one (.s 4)), (.m 1 4)]) 0), (.fld (.ag [(.one (.s 4)), (.m 1 4)]) 1), (.fld (.ag [(.one (.s 5)), (.m 1 5)]) 0), (.fld (.ag [(.one (.s 5)), (.m 1 5)]) 1), (.fld (.ag [(.one (.s 6)), (.m 1 6)]) 0), (.fld (.ag [(.one (.s 6)), (.m 1 6)]) 1)]) 4), (.fld (.ag [(.fld (.ag [(.one (.s 3)), (.m 1 3)]) 0), (.fld (.ag [(.one (.s 3)), (.m 1 3)]) 1), (.fld (.ag [(.one (.s 4)), (.m 1 4)]) 0), (.fld (.ag [(.one (.s 4)), (.m 1 4)]) 1), (.fld (.ag [(.one (.s 5)), (.m 1 5)]) 0), (.fld (.ag [(.one (.s 5)), (.m 1 5)]) 1), (.fld (.ag [(.one (.s 6)), (.m 1 6)]) 0), (.fld (.ag [(.one (.s 6)), (.m 1 6)]) 1)]) 5), (.fld (.ag [(.fld (.ag [(.one (.s 3)), (.m 1 3)]) 0), (.fld (.ag [(.one (.s 3)), (.m 1 3)]) 1), (.fld (.ag [(.one (.s 4)), (.m 1 4)]) 0), (.fld (.ag [(.one (.s 4)), (.m 1 4)]) 1), (.fld (.ag [(.one (.s 5)), (.m 1 5)]) 0), (.fld (.ag [(.one (.s 5)), (.m 1 5)]) 1), (.fld (.ag [(.one (.s 6)), (.m 1 6)]) 0), (.fld (.ag [(.one (.s 6)), (.m 1 6)]) 1)]) 6), (.fld (.ag [(.fld (.ag [(.one (.s 3)), (.m 1 3)]) 0), (.fld (.ag [(.one (.s 3)), (.m 1 3)]) 1), (.fld (.ag [(.one (.s 4)), (.m 1 4)]) 0), (.fld (.ag [(.one (.s 4)), (.m 1 4)]) 1), (.fld (.ag [(.one (.s 5)), (.m 1 5)]) 0), (.fld (.ag [(.one (.s 5)), (.m 1 5)]) 1), (.fld (.ag [(.one (.s 6)), (.m 1 6)]) 0), (.fld (.ag [(.one (.s 6)), (.m 1 6)]) 1)]) 7)])]⟩)
.ret)),
[(2, (.ag 8))]⟩
theorem c78 : compFn Try.prog fresh sig [.fz] [] Try.f78 = some p78 := by kernel_rfl
/-- cromlech/places.within -/
def p89 : Fn := ⟨4, [0, 1, 2, 6],
(.seq
(.reg ⟨[], [], [(3, .v (.c (.bool false)))]⟩)
(.seq
(.reg ⟨[.lt 4 [] (.bin .geq (.s 0) (.c (.int .i64 (0)))), .lt 5 [] (.ite (.s 4) (.bin .geq (.s 1) (.c (.int .i64 (0)))) (.c (.bool false))), .lt 6 [] (.ite (.s 5) (.bin .leq (.s 0) (.s 2)) (.c (.bool false)))], [([(4, true)], (.bin .geq (.s 1) (.c (.int .i64 (0))))), ([(5, true)], (.bin .leq (.s 0) (.s 2))), ([(6, true)], (.bin .leq (.s 1) (.bin .sub (.s 2) (.s 0))))], [(3, .v (.ite (.s 6) (.bin .leq (.s 1) (.bin .sub (.s 2) (.s 0))) (.c (.bool false))))]⟩)
.ret)),
[(3, .v)]⟩
theorem c89 : compFn Try.prog fresh sig [.fz, .fz, .fz] [] Try.f89 = some p89 := by kernel_rfl
/-- cromlech/cromlechref07.Room -/
def p93 : Fn := ⟨5, [0, 1, 2, 3, 7],
(.seq
(.reg ⟨[], [], [(1, .m [(.fld (.sz (.s 0) 7) 0), (.fld (.sz (.s 0) 7) 1), (.fld (.sz (.s 0) 7) 2), (.fld (.sz (.s 0) 7) 3), (.fld (.sz (.s 0) 7) 4), (.fld (.sz (.s 0) 7) 5), (.fld (.sz (.s 0) 7) 6)]), (2, .v (.c (.int .i64 (0))))]⟩)
(.seq
(.reg ⟨[.call 5 [] (.id 63) false false [(.mm 1 0 7)]], [], [(3, .v (.s 5))]⟩)
(.seq
(.seq
(.reg ⟨[], [], [(4, .v (.un .not (.s 3)))]⟩)
(.cond (.s 4)
 (.seq
 (.reg ⟨[], [], [(2, .v (.c (.int .i64 (0))))]⟩)
 .ret)
 .skip))
(.seq
(.reg ⟨[], [], [(2, .v (.bin .sub (.bin .sub (.m 1 1) (.m 1 3)) (.m 1 4)))]⟩)
.ret)))),
[(2, .v)]⟩
theorem c93 : compFn Try.prog fresh sig [.fz] [] Try.f93 = some p93 := by kernel_rfl
/-- cromlech/places.first -/
def p99 : Fn := ⟨10, [0, 1, 2, 4, 5, 9, 8, 11, 13, 15],
(.seq
(.reg ⟨[], [], [(2, .m [(.fld (.sz (.s 0) 7) 0), (.fld (.sz (.s 0) 7) 1), (.fld (.sz (.s 0) 7) 2), (.fld (.sz (.s 0) 7) 3), (.fld (.sz (.s 0) 7) 4), (.fld (.sz (.s 0) 7) 5), (.fld (.sz (.s 0) 7) 6)]), (3, .v (.c (.int .u64 (0))))]⟩)
(.seq
(.reg ⟨[], [], [(4, .v (.m 2 0))]⟩)
(.seq
(.seq
(.reg ⟨[], [], [(6, .v (.s 1))]⟩)
(.block 0
 (.seq
 (.block 4
  (.seq
  (.block 3
   (.seq
   (.block 2
    (.seq
    (.block 1
     (.seq
     (.seq
     (.seq
     (.reg ⟨[], [], [(5, .v (.bin .eql (.s 6) (.c (.int .i64 (2)))))]⟩)
     (.cond (.s 5)
      (.exit 1)
      .skip))
     (.seq
     (.seq
     (.reg ⟨[], [], [(7, .v (.bin .eql (.s 6) (.c (.int .i64 (1)))))]⟩)
     (.cond (.s 7)
      (.exit 2)
      .skip))
     (.seq
     (.seq
     (.reg ⟨[], [], [(8, .v (.bin .eql (.s 6) (.c (.int .i64 (4)))))]⟩)
     (.cond (.s 8)
      (.exit 3)
      .skip))
     (.seq
     (.reg ⟨[], [], [(9, .v (.bin .eql (.s 6) (.c (.int .i64 (3)))))]⟩)
     (.cond (.s 9)
      (.exit 4)
      .skip)))))
     (.exit 0)))
    (.reg ⟨[], [], [(4, .v (.bin .add (.s 4) (.conv .u64 (.bin .sub (.m 2 1) (.m 2 4)))))]⟩)))
   (.seq
   (.reg ⟨[], [], [(4, .v (.bin .add (.s 4) (.conv .u64 (.bin .mul (.m 2 2) (.m 2 1)))))]⟩)
   (.exit 0))))
  (.reg ⟨[], [], [(4, .v (.bin .add (.s 4) (.conv .u64 (.bin .sub (.m 2 1) (.m 2 6)))))]⟩)))
 (.seq
 (.reg ⟨[], [], [(4, .v (.bin .add (.s 4) (.conv .u64 (.bin .mul (.bin .sub (.c (.int .i64 (1))) (.m 2 2)) (.m 2 1)))))]⟩)
 (.exit 0)))))
(.seq
(.reg ⟨[], [], [(3, .v (.s 4))]⟩)
.ret)))),
[(3, .v)]⟩
theorem c99 : compFn Try.prog fresh sig [.fz, .fz] [] Try.f99 = some p99 := by kernel_rfl
end Vm
