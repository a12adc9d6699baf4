/-
  MADE BY A PROGRAM: programs that the compiler makes of functions, and that it makes them.
-/
import Derived.Test.YtfplljcicihneaaGs
namespace Vm
open Go
open Go.Proofs
set_option maxRecDepth 100000
/-- cromlech/cromlechref06.Same -/
def p36 : Fn := ⟨7, [0, 1, 4, 10, 5, 14, 25],
(.seq
(.reg ⟨[], [], [(2, .v (.c (.bool false)))]⟩)
(.seq
(.seq
(.reg ⟨[], [], [(3, .v (.bin .neq (.len (.s 0)) (.len (.s 1))))]⟩)
(.cond (.s 3)
 (.seq
 (.reg ⟨[], [], [(2, .v (.c (.bool false)))]⟩)
 .ret)
 .skip))
(.seq
(.seq
(.reg ⟨[], [], [(4, .v (.c (.int .i64 (0))))]⟩)
(.block 0
 (.loop [0, 1, 2, 3, 4]
  (.seq
  (.seq
  (.reg ⟨[], [], [(5, .v (.bin .lss (.s 4) (.len (.s 0))))]⟩)
  (.cond (.s 5)
   .skip
   (.exit 0)))
  (.seq
  (.block 1
   (.seq
   (.reg ⟨[], [], [(6, .v (.bin .neq (.flds (.idx (.s 0) (.s 4) 5) 0 5) (.flds (.idx (.s 1) (.s 4) 5) 0 5)))]⟩)
   (.cond (.s 6)
    (.seq
    (.reg ⟨[], [], [(2, .v (.c (.bool false)))]⟩)
    .ret)
    .skip)))
  (.reg ⟨[], [], [(4, .v (.bin .add (.s 4) (.c (.int .i64 (1)))))]⟩))))))
(.seq
(.reg ⟨[], [], [(2, .v (.c (.bool true)))]⟩)
.ret)))),
[(2, .v)]⟩
theorem c36 : compFn Try.prog fresh sig [.fz, .fz] [] Try.f36 = some p36 := by kernel_rfl
/-- cromlech/cromlechref11.Parts -/
def p70 : Fn := ⟨18, [0, 1, 2, 3, 4, 5, 6, 7, 33, 8, 9, 10, 11, 12, 13, 14, 15, 77],
(.seq
(.reg ⟨[], [], [(1, .m [(.fld (.sz (.s 0) 10) 0), (.fld (.sz (.s 0) 10) 1), (.fld (.sz (.s 0) 10) 2), (.fld (.sz (.s 0) 10) 3), (.fld (.sz (.s 0) 10) 4), (.fld (.sz (.s 0) 10) 5), (.fld (.sz (.s 0) 10) 6), (.fld (.sz (.s 0) 10) 7), (.fld (.sz (.s 0) 10) 8), (.fld (.sz (.s 0) 10) 9)]), (2, .v (.c (.sl []))), (3, .v (.c (.bool false)))]⟩)
(.seq
(.reg ⟨[.call 18 [] (.id 95) false false [(.m 1 5)]], [], [(4, .v (.ext (.s 18) 0)), (5, .v (.ext (.s 18) 1))]⟩)
(.seq
(.reg ⟨[.call 19 [] (.id 95) false false [(.m 1 6)]], [], [(6, .v (.ext (.s 19) 0)), (7, .v (.ext (.s 19) 1))]⟩)
(.seq
(.seq
(.reg ⟨[.lt 20 [] (.bin .neq (.s 5) (.c (.int .i64 (0))))], [([(20, false)], (.bin .neq (.s 7) (.c (.int .i64 (0)))))], [(8, .v (.ite (.s 20) (.c (.bool true)) (.bin .neq (.s 7) (.c (.int .i64 (0))))))]⟩)
(.cond (.s 8)
 (.seq
 (.reg ⟨[], [], [(3, .v (.c (.bool false)))]⟩)
 .ret)
 .skip))
(.seq
(.reg ⟨[.call 21 [] (.id 96) false false [(.mm 1 0 10), (.m 1 7), (.s 4)]], [], [(9, .v (.ext (.s 21) 0)), (10, .v (.ext (.s 21) 1))]⟩)
(.seq
(.reg ⟨[.call 22 [] (.id 96) false false [(.mm 1 0 10), (.m 1 8), (.s 4)]], [], [(11, .v (.ext (.s 22) 0)), (12, .v (.ext (.s 22) 1))]⟩)
(.seq
(.reg ⟨[.call 23 [] (.id 97) false false [(.m 1 7), (.s 9)]], [], [(13, .v (.ext (.s 23) 0)), (14, .v (.ext (.s 23) 1))]⟩)
(.seq
(.reg ⟨[.call 24 [] (.id 97) false false [(.m 1 8), (.s 11)]], [], [(15, .v (.ext (.s 24) 0)), (16, .v (.ext (.s 24) 1))]⟩)
(.seq
(.seq
(.reg ⟨[.lt 25 [] (.un .not (.s 10)), .lt 26 [] (.ite (.s 25) (.c (.bool true)) (.un .not (.s 12))), .lt 27 [] (.ite (.s 26) (.c (.bool true)) (.bin .neq (.s 14) (.c (.int .i64 (0)))))], [([(25, false)], (.un .not (.s 12))), ([(26, false)], (.bin .neq (.s 14) (.c (.int .i64 (0))))), ([(27, false)], (.bin .neq (.s 16) (.c (.int .i64 (0)))))], [(17, .v (.ite (.s 27) (.c (.bool true)) (.bin .neq (.s 16) (.c (.int .i64 (0))))))]⟩)
(.cond (.s 17)
 (.seq
 (.reg ⟨[], [], [(3, .v (.c (.bool false)))]⟩)
 .ret)
 .skip))
(.seq
(.reg ⟨[], [], [(2, .v (.lit [(.c (.sl [])), (.one (.s 4)), (.one (.s 6)), (.one (.s 13)), (.one (.s 15))])), (3, .v (.c (.bool true)))]⟩)
.ret)))))))))),
[(2, .v), (3, .v)]⟩
theorem c70 : compFn Try.prog fresh sig [.fz] [] Try.f70 = some p70 := by kernel_rfl
/-- cromlech/cromlechref11.start -/
def p72 : Fn := ⟨7, [0, 1, 2, 3, 6, 7, 8],
(.seq
(.reg ⟨[], [], [(3, .m [(.fld (.sz (.s 0) 10) 0), (.fld (.sz (.s 0) 10) 1), (.fld (.sz (.s 0) 10) 2), (.fld (.sz (.s 0) 10) 3), (.fld (.sz (.s 0) 10) 4), (.fld (.sz (.s 0) 10) 5), (.fld (.sz (.s 0) 10) 6), (.fld (.sz (.s 0) 10) 7), (.fld (.sz (.s 0) 10) 8), (.fld (.sz (.s 0) 10) 9)]), (4, .v (.c (.int .u64 (0))))]⟩)
(.seq
(.reg ⟨[.call 7 [] (.id 38) false false [(.mm 3 0 10)], .call 8 [] (.id 37) false false [(.s 7), (.ag [(.one (.s 1)), (.one (.s 2))])]], [], [(5, .v (.ext (.s 8) 0)), (6, .v (.ext (.s 8) 1))]⟩)
(.seq
(.reg ⟨[], [], [(4, .v (.s 5))]⟩)
.ret))),
[(4, .v)]⟩
theorem c72 : compFn Try.prog fresh sig [.fz, .fz, .fz] [] Try.f72 = some p72 := by kernel_rfl
/-- cromlech/cromlechref06.Walk -/
def p95 : Fn := ⟨3, [0, 2, 3],
(.seq
(.reg ⟨[], [], [(1, .v (.c (.sl []))), (2, .v (.c (.int .i64 (0))))]⟩)
(.seq
(.reg ⟨[.call 3 [] (.id 111) false false [(.s 0), (.c (.sl [])), (.c (.bool false))]], [], [(1, .v (.ext (.s 3) 0)), (2, .v (.ext (.s 3) 1))]⟩)
.ret)),
[(1, .v), (2, .v)]⟩
theorem c95 : compFn Try.prog fresh sig [.fz] [] Try.f95 = some p95 := by kernel_rfl
/-- cromlech/cromlechref11.shapes -/
def p96 : Fn := ⟨18, [0, 1, 2, 3, 6, 7, 8, 9, 19, 10, 11, 12, 13, 37, 14, 15, 46, 54],
(.seq
(.reg ⟨[], [], [(3, .m [(.fld (.sz (.s 0) 10) 0), (.fld (.sz (.s 0) 10) 1), (.fld (.sz (.s 0) 10) 2), (.fld (.sz (.s 0) 10) 3), (.fld (.sz (.s 0) 10) 4), (.fld (.sz (.s 0) 10) 5), (.fld (.sz (.s 0) 10) 6), (.fld (.sz (.s 0) 10) 7), (.fld (.sz (.s 0) 10) 8), (.fld (.sz (.s 0) 10) 9)]), (4, .v (.c (.sl []))), (5, .v (.c (.bool false)))]⟩)
(.seq
(.reg ⟨[], [], [(6, .v (.c (.sl [])))]⟩)
(.seq
(.seq
(.reg ⟨[], [], [(7, .v (.c (.int .i64 (0))))]⟩)
(.block 0
 (.loop [0, 1, 2, 3, 4, 5, 6, 7]
  (.seq
  (.seq
  (.reg ⟨[], [], [(8, .v (.bin .lss (.s 7) (.len (.s 1))))]⟩)
  (.cond (.s 8)
   .skip
   (.exit 0)))
  (.block 1
   (.seq
   (.reg ⟨[.call 18 [] (.id 66) false false [(.fld (.idx (.s 1) (.s 7) 1) 0)]], [], [(9, .m [(.fld (.sz (.ext (.s 18) 0) 2) 0), (.fld (.sz (.ext (.s 18) 0) 2) 1)]), (10, .v (.ext (.s 18) 1))]⟩)
   (.seq
   (.reg ⟨[.call 19 [] (.id 64) false false [(.fld (.idx (.s 1) (.s 7) 1) 0)]], [], [(11, .v (.ext (.s 19) 0)), (12, .v (.ext (.s 19) 1))]⟩)
   (.seq
   (.seq
   (.reg ⟨[], [], [(13, .v (.bin .eql (.s 12) (.c (.int .i64 (0)))))]⟩)
   (.cond (.s 13)
    (.seq
    (.reg ⟨[.call 20 [] (.id 98) false false [(.mm 3 0 10), (.c (.int .i64 (1))), (.s 2), (.s 11)]], [], [(14, .m [(.fld (.sz (.ext (.s 20) 0) 5) 0), (.fld (.sz (.ext (.s 20) 0) 5) 1), (.fld (.sz (.ext (.s 20) 0) 5) 2), (.fld (.sz (.ext (.s 20) 0) 5) 3), (.fld (.sz (.ext (.s 20) 0) 5) 4)]), (15, .v (.ext (.s 20) 1))]⟩)
    (.seq
    (.seq
    (.reg ⟨[], [], [(16, .v (.un .not (.s 15)))]⟩)
    (.cond (.s 16)
     (.seq
     (.reg ⟨[], [], [(5, .v (.c (.bool false)))]⟩)
     .ret)
     .skip))
    (.seq
    (.reg ⟨[], [], [(9, .m [(.fld (.mm 14 1 2) 0), (.fld (.mm 14 1 2) 1)])]⟩)
    (.seq
    (.reg ⟨[], [], [(10, .v (.c (.int .i64 (0))))]⟩)
    (.reg ⟨[], [], [(6, .v (.app (.s 6) (.lit [(.mm 9 0 2)]) 2))]⟩)))))
    .skip))
   (.seq
   (.seq
   (.reg ⟨[], [], [(17, .v (.bin .neq (.s 10) (.c (.int .i64 (0)))))]⟩)
   (.cond (.s 17)
    (.seq
    (.reg ⟨[], [], [(5, .v (.c (.bool false)))]⟩)
    .ret)
    .skip))
   (.reg ⟨[], [], [(7, .v (.bin .add (.bin .add (.s 7) (.c (.int .i64 (1)))) (.m 9 0)))]⟩))))))))))
(.seq
(.reg ⟨[], [], [(4, .v (.s 6)), (5, .v (.c (.bool true))), (6, .no)]⟩)
.ret)))),
[(4, .v), (5, .v)]⟩
theorem c96 : compFn Try.prog fresh sig [.fz, .fz, .fz] [] Try.f96 = some p96 := by kernel_rfl
/-- cromlech/cromlechref06.WalkOld -/
def p97 : Fn := ⟨4, [0, 1, 4, 5],
(.seq
(.reg ⟨[], [], [(2, .v (.c (.sl []))), (3, .v (.c (.int .i64 (0))))]⟩)
(.seq
(.reg ⟨[.call 4 [] (.id 111) false false [(.s 0), (.s 1), (.c (.bool true))]], [], [(2, .v (.ext (.s 4) 0)), (3, .v (.ext (.s 4) 1))]⟩)
.ret)),
[(2, .v), (3, .v)]⟩
theorem c97 : compFn Try.prog fresh sig [.fz, .fz] [] Try.f97 = some p97 := by kernel_rfl
/-- cromlech/cromlechref11.at -/
def p98 : Fn := ⟨10, [0, 1, 2, 3, 4, 8, 9, 10, 14, 26],
(.seq
(.reg ⟨[], [], [(4, .m [(.fld (.sz (.s 0) 10) 0), (.fld (.sz (.s 0) 10) 1), (.fld (.sz (.s 0) 10) 2), (.fld (.sz (.s 0) 10) 3), (.fld (.sz (.s 0) 10) 4), (.fld (.sz (.s 0) 10) 5), (.fld (.sz (.s 0) 10) 6), (.fld (.sz (.s 0) 10) 7), (.fld (.sz (.s 0) 10) 8), (.fld (.sz (.s 0) 10) 9)]), (5, .m [(.c (.int .i64 (0))), (.c (.int .i64 (0))), (.c (.int .i64 (0))), (.c (.bool false)), (.c (.int .u64 (0)))]), (6, .v (.c (.bool false)))]⟩)
(.seq
(.seq
(.reg ⟨[], [], [(7, .v (.c (.int .i64 (0))))]⟩)
(.block 0
 (.loop [0, 1, 2, 3, 4, 5, 6, 7]
  (.seq
  (.seq
  (.reg ⟨[], [], [(8, .v (.bin .lss (.s 7) (.len (.s 2))))]⟩)
  (.cond (.s 8)
   .skip
   (.exit 0)))
  (.seq
  (.block 1
   (.seq
   (.reg ⟨[.call 10 [] (.id 72) false false [(.mm 4 0 10), (.s 1), (.fld (.idx (.s 2) (.s 7) 5) 0)]], [], [(9, .v (.bin .eql (.s 10) (.s 3)))]⟩)
   (.cond (.s 9)
    (.seq
    (.reg ⟨[], [], [(5, .m [(.fld (.flds (.idx (.s 2) (.s 7) 5) 0 5) 0), (.fld (.flds (.idx (.s 2) (.s 7) 5) 0 5) 1), (.fld (.flds (.idx (.s 2) (.s 7) 5) 0 5) 2), (.fld (.flds (.idx (.s 2) (.s 7) 5) 0 5) 3), (.fld (.flds (.idx (.s 2) (.s 7) 5) 0 5) 4)]), (6, .v (.c (.bool true)))]⟩)
    .ret)
    .skip)))
  (.reg ⟨[], [], [(7, .v (.bin .add (.s 7) (.c (.int .i64 (1)))))]⟩))))))
(.seq
(.reg ⟨[], [], [(5, .m [(.fld (.ag [(.c (.int .i64 (0))), (.c (.int .i64 (0))), (.c (.int .i64 (0))), (.c (.bool false)), (.c (.int .u64 (0)))]) 0), (.fld (.ag [(.c (.int .i64 (0))), (.c (.int .i64 (0))), (.c (.int .i64 (0))), (.c (.bool false)), (.c (.int .u64 (0)))]) 1), (.fld (.ag [(.c (.int .i64 (0))), (.c (.int .i64 (0))), (.c (.int .i64 (0))), (.c (.bool false)), (.c (.int .u64 (0)))]) 2), (.fld (.ag [(.c (.int .i64 (0))), (.c (.int .i64 (0))), (.c (.int .i64 (0))), (.c (.bool false)), (.c (.int .u64 (0)))]) 3), (.fld (.ag [(.c (.int .i64 (0))), (.c (.int .i64 (0))), (.c (.int .i64 (0))), (.c (.bool false)), (.c (.int .u64 (0)))]) 4)]), (6, .v (.c (.bool false)))]⟩)
.ret))),
[(5, (.ag 5)), (6, .v)]⟩
theorem c98 : compFn Try.prog fresh sig [.fz, .fz, .fz, .fz] [] Try.f98 = some p98 := by kernel_rfl
/-- cromlech/cromlechref06.walk -/
def p111 : Fn := ⟨21, [0, 1, 2, 6, 7, 8, 9, 10, 20, 11, 12, 13, 35, 47, 14, 15, 67, 79, 16, 93, 108],
(.seq
(.reg ⟨[], [], [(3, .v (.c (.sl []))), (4, .v (.c (.int .i64 (0))))]⟩)
(.seq
(.reg ⟨[], [], [(5, .v (.c (.sl [])))]⟩)
(.seq
(.reg ⟨[], [], [(6, .v (.c (.int .i64 (0))))]⟩)
(.seq
(.seq
(.reg ⟨[], [], [(7, .v (.c (.int .i64 (0))))]⟩)
(.block 0
 (.loop [0, 1, 2, 3, 4, 5, 6, 7]
  (.seq
  (.seq
  (.reg ⟨[], [], [(8, .v (.bin .lss (.s 7) (.len (.s 0))))]⟩)
  (.cond (.s 8)
   .skip
   (.exit 0)))
  (.block 1
   (.seq
   (.reg ⟨[], [], [(9, .m [(.fld (.ag [(.one (.s 7)), (.c (.int .i64 (0))), (.c (.int .i64 (0))), (.c (.bool false)), (.c (.int .u64 (0)))]) 0), (.fld (.ag [(.one (.s 7)), (.c (.int .i64 (0))), (.c (.int .i64 (0))), (.c (.bool false)), (.c (.int .u64 (0)))]) 1), (.fld (.ag [(.one (.s 7)), (.c (.int .i64 (0))), (.c (.int .i64 (0))), (.c (.bool false)), (.c (.int .u64 (0)))]) 2), (.fld (.ag [(.one (.s 7)), (.c (.int .i64 (0))), (.c (.int .i64 (0))), (.c (.bool false)), (.c (.int .u64 (0)))]) 3), (.fld (.ag [(.one (.s 7)), (.c (.int .i64 (0))), (.c (.int .i64 (0))), (.c (.bool false)), (.c (.int .u64 (0)))]) 4)])]⟩)
   (.seq
   (.reg ⟨[.call 21 [] (.id 64) false false [(.fld (.idx (.s 0) (.s 7) 1) 0)]], [], [(10, .v (.ext (.s 21) 0)), (11, .v (.ext (.s 21) 1))]⟩)
   (.seq
   (.seq
   (.reg ⟨[.lt 22 [] (.s 2)], [([(22, true)], (.bin .eql (.s 11) (.c (.int .i64 (0)))))], [(12, .v (.ite (.s 22) (.bin .eql (.s 11) (.c (.int .i64 (0)))) (.c (.bool false))))]⟩)
   (.cond (.s 12)
    (.seq
    (.seq
    (.reg ⟨[.lt 23 [] (.bin .eql (.s 6) (.len (.s 1))), .call 24 [(23, false)] (.id 102) false false [(.flds (.idx (.s 1) (.s 6) 2) 0 2)]], [([(23, false)], (.un .not (.s 24)))], [(13, .v (.ite (.s 23) (.c (.bool true)) (.un .not (.s 24))))]⟩)
    (.cond (.s 13)
     (.seq
     (.reg ⟨[], [], [(4, .v (.c (.int .i64 (3))))]⟩)
     .ret)
     .skip))
    (.seq
    (.reg ⟨[], [], [(9, .m [(.m 9 0), (.m 9 1), (.m 9 2), (.c (.bool true)), (.m 9 4)])]⟩)
    (.seq
    (.reg ⟨[], [], [(9, .m [(.m 9 0), (.m 9 1), (.m 9 2), (.m 9 3), (.one (.s 10))])]⟩)
    (.seq
    (.reg ⟨[], [], [(9, .m [(.m 9 0), (.fld (.flds (.idx (.s 1) (.s 6) 2) 0 2) 0), (.fld (.flds (.idx (.s 1) (.s 6) 2) 0 2) 1), (.m 9 3), (.m 9 4)])]⟩)
    (.reg ⟨[], [], [(6, .v (.bin .add (.s 6) (.c (.int .i64 (1)))))]⟩)))))
    (.seq
    (.reg ⟨[.call 25 [] (.id 66) false false [(.fld (.idx (.s 0) (.s 7) 1) 0)]], [], [(14, .m [(.fld (.sz (.ext (.s 25) 0) 2) 0), (.fld (.sz (.ext (.s 25) 0) 2) 1)]), (15, .v (.ext (.s 25) 1))]⟩)
    (.seq
    (.seq
    (.reg ⟨[], [], [(16, .v (.bin .neq (.s 15) (.c (.int .i64 (0)))))]⟩)
    (.cond (.s 16)
     (.seq
     (.reg ⟨[], [], [(4, .v (.s 15))]⟩)
     .ret)
     .skip))
    (.reg ⟨[], [], [(9, .m [(.m 9 0), (.fld (.mm 14 0 2) 0), (.fld (.mm 14 0 2) 1), (.m 9 3), (.m 9 4)])]⟩)))))
   (.seq
   (.seq
   (.reg ⟨[], [], [(17, .v (.bin .gtr (.bin .add (.bin .add (.s 7) (.c (.int .i64 (1)))) (.m 9 1)) (.len (.s 0))))]⟩)
   (.cond (.s 17)
    (.seq
    (.reg ⟨[], [], [(4, .v (.c (.int .i64 (2))))]⟩)
    .ret)
    .skip))
   (.seq
   (.reg ⟨[.call 26 [] (.id 123) false false [(.slc (.s 0) (.bin .add (.s 7) (.c (.int .i64 (1)))) (.bin .add (.bin .add (.s 7) (.c (.int .i64 (1)))) (.m 9 1)) 1), (.mm 9 0 5)]], [], [(18, .v (.s 26))]⟩)
   (.seq
   (.seq
   (.reg ⟨[], [], [(19, .v (.bin .neq (.s 18) (.c (.int .i64 (0)))))]⟩)
   (.cond (.s 19)
    (.seq
    (.reg ⟨[], [], [(4, .v (.s 18))]⟩)
    .ret)
    .skip))
   (.seq
   (.reg ⟨[], [], [(5, .v (.app (.s 5) (.lit [(.mm 9 0 5)]) 5))]⟩)
   (.reg ⟨[], [], [(7, .v (.bin .add (.bin .add (.s 7) (.c (.int .i64 (1)))) (.m 9 1)))]⟩)))))))))))))
(.seq
(.seq
(.reg ⟨[], [], [(20, .v (.bin .lss (.s 6) (.len (.s 1))))]⟩)
(.cond (.s 20)
 (.seq
 (.reg ⟨[], [], [(4, .v (.c (.int .i64 (3))))]⟩)
 .ret)
 .skip))
(.seq
(.reg ⟨[], [], [(3, .v (.s 5)), (4, .v (.c (.int .i64 (0)))), (5, .no)]⟩)
.ret)))))),
[(3, .v), (4, .v)]⟩
theorem c111 : compFn Try.prog fresh sig [.fz, .fz, .fz] [] Try.f111 = some p111 := by kernel_rfl
/-- cromlech/cromlechref06.slots -/
def p123 : Fn := ⟨8, [0, 1, 3, 4, 5, 9, 20, 33],
(.seq
(.reg ⟨[], [], [(2, .m [(.fld (.sz (.s 1) 5) 0), (.fld (.sz (.s 1) 5) 1), (.fld (.sz (.s 1) 5) 2), (.fld (.sz (.s 1) 5) 3), (.fld (.sz (.s 1) 5) 4)]), (3, .v (.c (.int .i64 (0))))]⟩)
(.seq
(.seq
(.reg ⟨[], [], [(4, .v (.c (.int .i64 (0))))]⟩)
(.block 0
 (.loop [0, 1, 2, 3, 4]
  (.seq
  (.seq
  (.reg ⟨[], [], [(5, .v (.bin .lss (.s 4) (.len (.s 0))))]⟩)
  (.cond (.s 5)
   .skip
   (.exit 0)))
  (.seq
  (.block 1
   (.seq
   (.seq
   (.reg ⟨[.lt 8 [] (.m 2 3)], [([(8, true)], (.bin .neq (.fld (.idx (.s 0) (.s 4) 1) 0) (.c (.int .u64 (0)))))], [(6, .v (.ite (.s 8) (.bin .neq (.fld (.idx (.s 0) (.s 4) 1) 0) (.c (.int .u64 (0)))) (.c (.bool false))))]⟩)
   (.cond (.s 6)
    (.seq
    (.reg ⟨[], [], [(3, .v (.c (.int .i64 (3))))]⟩)
    .ret)
    .skip))
   (.seq
   (.reg ⟨[.lt 9 [] (.bin .lss (.s 4) (.m 2 2)), .call 10 [(9, true)] (.id 126) false false [(.fld (.idx (.s 0) (.s 4) 1) 0)]], [([(9, true)], (.un .not (.s 10)))], [(7, .v (.ite (.s 9) (.un .not (.s 10)) (.c (.bool false))))]⟩)
   (.cond (.s 7)
    (.seq
    (.reg ⟨[], [], [(3, .v (.c (.int .i64 (3))))]⟩)
    .ret)
    .skip))))
  (.reg ⟨[], [], [(4, .v (.bin .add (.s 4) (.c (.int .i64 (1)))))]⟩))))))
(.seq
(.reg ⟨[], [], [(3, .v (.c (.int .i64 (0))))]⟩)
.ret))),
[(3, .v)]⟩
theorem c123 : compFn Try.prog fresh sig [.fz, .fz] [] Try.f123 = some p123 := by kernel_rfl
/-- cromlech/cromlechref06.Pointer -/
def p126 : Fn := ⟨4, [0, 2, 3, 4],
(.seq
(.reg ⟨[], [], [(1, .v (.c (.bool false)))]⟩)
(.seq
(.reg ⟨[.call 4 [] (.id 64) false false [(.s 0)]], [], [(2, .v (.ext (.s 4) 0)), (3, .v (.ext (.s 4) 1))]⟩)
(.seq
(.reg ⟨[.lt 5 [] (.bin .eql (.s 0) (.c (.int .u64 (0))))], [([(5, false)], (.bin .eql (.s 3) (.c (.int .i64 (0)))))], [(1, .v (.ite (.s 5) (.c (.bool true)) (.bin .eql (.s 3) (.c (.int .i64 (0))))))]⟩)
.ret))),
[(1, .v)]⟩
theorem c126 : compFn Try.prog fresh sig [.fz] [] Try.f126 = some p126 := by kernel_rfl
end Vm
