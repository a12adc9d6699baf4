/-
  MADE BY A PROGRAM: programs that the compiler makes of functions, and that it makes them.
-/
import Derived.Test.YtfplljcicihneaaGs
namespace Vm
open Go
open Go.Proofs
set_option maxRecDepth 100000
/-- cromlech/cromlechref11.Right -/
def p31 : Fn := ⟨16, [0, 1, 2, 10, 3, 4, 17, 5, 27, 41, 6, 46, 57, 7, 59, 66],
(.seq
(.reg ⟨[], [], [(1, .m [(.fld (.sz (.s 0) 10) 0), (.fld (.sz (.s 0) 10) 1), (.fld (.sz (.s 0) 10) 2), (.fld (.sz (.s 0) 10) 3), (.fld (.sz (.s 0) 10) 4), (.fld (.sz (.s 0) 10) 5), (.fld (.sz (.s 0) 10) 6), (.fld (.sz (.s 0) 10) 7), (.fld (.sz (.s 0) 10) 8), (.fld (.sz (.s 0) 10) 9)]), (2, .v (.c (.bool false)))]⟩)
(.seq
(.seq
(.reg ⟨[.call 16 [] (.id 69) false false [(.mm 1 0 10)]], [], [(3, .v (.un .not (.s 16)))]⟩)
(.cond (.s 3)
 (.seq
 (.reg ⟨[], [], [(2, .v (.c (.bool false)))]⟩)
 .ret)
 .skip))
(.seq
(.reg ⟨[.call 17 [] (.id 70) false false [(.mm 1 0 10)]], [], [(4, .v (.ext (.s 17) 0)), (5, .v (.ext (.s 17) 1))]⟩)
(.seq
(.seq
(.reg ⟨[], [], [(6, .v (.un .not (.s 5)))]⟩)
(.cond (.s 6)
 (.seq
 (.reg ⟨[], [], [(2, .v (.c (.bool false)))]⟩)
 .ret)
 .skip))
(.seq
(.seq
(.reg ⟨[], [], [(7, .v (.c (.int .i64 (0))))]⟩)
(.block 0
 (.loop [0, 1, 2, 3, 4, 5, 6, 7]
  (.seq
  (.seq
  (.reg ⟨[.lt 18 [] (.bin .lss (.s 7) (.len (.fld (.idx (.s 4) (.c (.int .i64 (1))) 1) 0)))], [([(18, true)], (.m 1 3))], [(8, .v (.ite (.s 18) (.m 1 3) (.c (.bool false))))]⟩)
  (.cond (.s 8)
   .skip
   (.exit 0)))
  (.seq
  (.block 1
   (.seq
   (.reg ⟨[.call 19 [] (.id 72) false false [(.mm 1 0 10), (.c (.int .i64 (1))), (.fld (.idx (.fld (.idx (.s 4) (.c (.int .i64 (1))) 1) 0) (.s 7) 5) 0)], .call 20 [] (.id 71) false false [(.s 4), (.s 19)]], [], [(9, .v (.bin .neq (.s 20) (.c (.int .i64 (1)))))]⟩)
   (.cond (.s 9)
    (.seq
    (.reg ⟨[], [], [(2, .v (.c (.bool false)))]⟩)
    .ret)
    .skip)))
  (.reg ⟨[], [], [(7, .v (.bin .add (.s 7) (.c (.int .i64 (1)))))]⟩))))))
(.seq
(.seq
(.reg ⟨[], [], [(10, .v (.c (.int .i64 (0))))]⟩)
(.block 2
 (.loop [0, 1, 2, 3, 4, 5, 6, 7, 8, 10]
  (.seq
  (.seq
  (.reg ⟨[], [], [(11, .v (.bin .lss (.s 10) (.len (.m 1 9))))]⟩)
  (.cond (.s 11)
   .skip
   (.exit 2)))
  (.seq
  (.block 3
   (.seq
   (.reg ⟨[.call 21 [] (.id 73) false false [(.mm 1 0 10), (.s 4), (.fld (.idx (.m 1 9) (.s 10) 1) 0), (.c (.int .i64 (1))), (.c (.int .i64 (2)))]], [], [(12, .v (.un .not (.s 21)))]⟩)
   (.cond (.s 12)
    (.seq
    (.reg ⟨[], [], [(2, .v (.c (.bool false)))]⟩)
    .ret)
    .skip)))
  (.reg ⟨[], [], [(10, .v (.bin .add (.s 10) (.c (.int .i64 (1)))))]⟩))))))
(.seq
(.seq
(.reg ⟨[], [], [(13, .v (.c (.int .i64 (1))))]⟩)
(.block 4
 (.loop [0, 1, 2, 3, 4, 5, 6, 7, 8, 10, 11, 13]
  (.seq
  (.seq
  (.reg ⟨[], [], [(14, .v (.bin .leq (.s 13) (.c (.int .i64 (4)))))]⟩)
  (.cond (.s 14)
   .skip
   (.exit 4)))
  (.seq
  (.block 5
   (.seq
   (.reg ⟨[.call 22 [] (.id 74) false false [(.mm 1 0 10), (.s 4), (.s 13)]], [], [(15, .v (.un .not (.s 22)))]⟩)
   (.cond (.s 15)
    (.seq
    (.reg ⟨[], [], [(2, .v (.c (.bool false)))]⟩)
    .ret)
    .skip)))
  (.reg ⟨[], [], [(13, .v (.bin .add (.s 13) (.c (.int .i64 (1)))))]⟩))))))
(.seq
(.reg ⟨[.call 23 [] (.id 75) false false [(.s 4)]], [], [(2, .v (.bin .leq (.bin .add (.bin .add (.len (.m 1 5)) (.len (.m 1 6))) (.s 23)) (.m 1 1)))]⟩)
.ret)))))))),
[(2, .v)]⟩
theorem c31 : compFn Try.prog fresh sig [.fz] [] Try.f31 = some p31 := by kernel_rfl
/-- cromlech/cromlechref11.Waiting -/
def p33 : Fn := ⟨7, [0, 1, 2, 3, 9, 4, 5],
(.seq
(.reg ⟨[], [], [(1, .m [(.fld (.sz (.s 0) 10) 0), (.fld (.sz (.s 0) 10) 1), (.fld (.sz (.s 0) 10) 2), (.fld (.sz (.s 0) 10) 3), (.fld (.sz (.s 0) 10) 4), (.fld (.sz (.s 0) 10) 5), (.fld (.sz (.s 0) 10) 6), (.fld (.sz (.s 0) 10) 7), (.fld (.sz (.s 0) 10) 8), (.fld (.sz (.s 0) 10) 9)]), (2, .v (.c (.int .i64 (0))))]⟩)
(.seq
(.reg ⟨[.call 7 [] (.id 31) false false [(.mm 1 0 10)]], [], [(3, .v (.s 7))]⟩)
(.seq
(.seq
(.reg ⟨[], [], [(4, .v (.un .not (.s 3)))]⟩)
(.cond (.s 4)
 (.seq
 (.reg ⟨[], [], [(2, .v (.c (.int .i64 (0))))]⟩)
 .ret)
 .skip))
(.seq
(.reg ⟨[.call 8 [] (.id 70) false false [(.mm 1 0 10)]], [], [(5, .v (.ext (.s 8) 0)), (6, .v (.ext (.s 8) 1))]⟩)
(.seq
(.reg ⟨[.call 9 [] (.id 75) false false [(.s 5)]], [], [(2, .v (.s 9))]⟩)
.ret))))),
[(2, .v)]⟩
theorem c33 : compFn Try.prog fresh sig [.fz] [] Try.f33 = some p33 := by kernel_rfl
/-- cromlech/cromlechref11.Objects -/
def p35 : Fn := ⟨9, [0, 1, 2, 4, 5, 6, 20, 7, 8],
(.seq
(.reg ⟨[], [], [(2, .m [(.fld (.sz (.s 0) 10) 0), (.fld (.sz (.s 0) 10) 1), (.fld (.sz (.s 0) 10) 2), (.fld (.sz (.s 0) 10) 3), (.fld (.sz (.s 0) 10) 4), (.fld (.sz (.s 0) 10) 5), (.fld (.sz (.s 0) 10) 6), (.fld (.sz (.s 0) 10) 7), (.fld (.sz (.s 0) 10) 8), (.fld (.sz (.s 0) 10) 9)]), (3, .v (.c (.sl []))), (4, .v (.c (.int .i64 (0))))]⟩)
(.seq
(.reg ⟨[.call 9 [] (.id 31) false false [(.mm 2 0 10)]], [], [(5, .v (.s 9))]⟩)
(.seq
(.seq
(.reg ⟨[.lt 10 [] (.un .not (.s 5)), .lt 11 [] (.ite (.s 10) (.c (.bool true)) (.bin .lss (.s 1) (.c (.int .i64 (1)))))], [([(10, false)], (.bin .lss (.s 1) (.c (.int .i64 (1))))), ([(11, false)], (.bin .gtr (.s 1) (.c (.int .i64 (4)))))], [(6, .v (.ite (.s 11) (.c (.bool true)) (.bin .gtr (.s 1) (.c (.int .i64 (4))))))]⟩)
(.cond (.s 6)
 (.seq
 (.reg ⟨[], [], [(4, .v (.c (.int .i64 (1))))]⟩)
 .ret)
 .skip))
(.seq
(.reg ⟨[.call 12 [] (.id 70) false false [(.mm 2 0 10)]], [], [(7, .v (.ext (.s 12) 0)), (8, .v (.ext (.s 12) 1))]⟩)
(.seq
(.reg ⟨[], [], [(3, .v (.fld (.idx (.s 7) (.s 1) 1) 0)), (4, .v (.c (.int .i64 (0))))]⟩)
.ret))))),
[(3, .v), (4, .v)]⟩
theorem c35 : compFn Try.prog fresh sig [.fz, .fz] [] Try.f35 = some p35 := by kernel_rfl
/-- cromlech/cromlechref11.numbers -/
def p69 : Fn := ⟨6, [0, 1, 2, 3, 27, 29],
(.seq
(.reg ⟨[], [], [(1, .m [(.fld (.sz (.s 0) 10) 0), (.fld (.sz (.s 0) 10) 1), (.fld (.sz (.s 0) 10) 2), (.fld (.sz (.s 0) 10) 3), (.fld (.sz (.s 0) 10) 4), (.fld (.sz (.s 0) 10) 5), (.fld (.sz (.s 0) 10) 6), (.fld (.sz (.s 0) 10) 7), (.fld (.sz (.s 0) 10) 8), (.fld (.sz (.s 0) 10) 9)]), (2, .v (.c (.bool false)))]⟩)
(.seq
(.reg ⟨[.call 6 [] (.id 38) false false [(.mm 1 0 10)], .call 7 [] (.id 63) false false [(.s 6)]], [], [(3, .v (.s 7))]⟩)
(.seq
(.seq
(.reg ⟨[.lt 8 [] (.un .not (.s 3)), .lt 9 [] (.ite (.s 8) (.c (.bool true)) (.bin .gtr (.len (.m 1 9)) (.c (.int .i64 (16))))), .lt 10 [] (.ite (.s 9) (.c (.bool true)) (.bin .lss (.m 1 4) (.c (.int .i64 (0)))))], [([(8, false)], (.bin .gtr (.len (.m 1 9)) (.c (.int .i64 (16))))), ([(9, false)], (.bin .lss (.m 1 4) (.c (.int .i64 (0))))), ([(10, false)], (.bin .gtr (.m 1 4) (.len (.m 1 5))))], [(4, .v (.ite (.s 10) (.c (.bool true)) (.bin .gtr (.m 1 4) (.len (.m 1 5)))))]⟩)
(.cond (.s 4)
 (.seq
 (.reg ⟨[], [], [(2, .v (.c (.bool false)))]⟩)
 .ret)
 .skip))
(.seq
(.seq
(.reg ⟨[], [], [(5, .v (.m 1 3))]⟩)
(.cond (.s 5)
 (.seq
 (.reg ⟨[], [], [(2, .v (.bin .lss (.m 1 4) (.len (.m 1 5))))]⟩)
 .ret)
 .skip))
(.seq
(.reg ⟨[.lt 11 [] (.bin .eql (.m 1 4) (.len (.m 1 5))), .lt 12 [] (.ite (.s 11) (.bin .eql (.len (.m 1 7)) (.c (.int .i64 (0)))) (.c (.bool false)))], [([(11, true)], (.bin .eql (.len (.m 1 7)) (.c (.int .i64 (0))))), ([(12, true)], (.bin .eql (.len (.m 1 8)) (.c (.int .i64 (0)))))], [(2, .v (.ite (.s 12) (.bin .eql (.len (.m 1 8)) (.c (.int .i64 (0)))) (.c (.bool false))))]⟩)
.ret))))),
[(2, .v)]⟩
theorem c69 : compFn Try.prog fresh sig [.fz] [] Try.f69 = some p69 := by kernel_rfl
/-- cromlech/cromlechref11.targets -/
def p71 : Fn := ⟨9, [0, 1, 4, 5, 6, 9, 7, 18, 40],
(.seq
(.reg ⟨[], [], [(2, .v (.c (.int .i64 (0))))]⟩)
(.seq
(.reg ⟨[], [], [(3, .v (.c (.int .i64 (0))))]⟩)
(.seq
(.seq
(.reg ⟨[], [], [(4, .v (.c (.int .i64 (3))))]⟩)
(.block 0
 (.loop [0, 1, 2, 3, 4]
  (.seq
  (.seq
  (.reg ⟨[], [], [(5, .v (.bin .leq (.s 4) (.c (.int .i64 (4)))))]⟩)
  (.cond (.s 5)
   .skip
   (.exit 0)))
  (.seq
  (.block 1
   (.seq
   (.reg ⟨[], [], [(6, .v (.c (.int .i64 (0))))]⟩)
   (.block 2
    (.loop [0, 1, 2, 3, 4, 5, 6]
     (.seq
     (.seq
     (.reg ⟨[], [], [(7, .v (.bin .lss (.s 6) (.len (.fld (.idx (.s 0) (.s 4) 1) 0))))]⟩)
     (.cond (.s 7)
      .skip
      (.exit 2)))
     (.seq
     (.block 3
      (.seq
      (.reg ⟨[.lt 9 [] (.fld (.idx (.fld (.idx (.s 0) (.s 4) 1) 0) (.s 6) 5) 3)], [([(9, true)], (.bin .eql (.fld (.idx (.fld (.idx (.s 0) (.s 4) 1) 0) (.s 6) 5) 4) (.s 1)))], [(8, .v (.ite (.s 9) (.bin .eql (.fld (.idx (.fld (.idx (.s 0) (.s 4) 1) 0) (.s 6) 5) 4) (.s 1)) (.c (.bool false))))]⟩)
      (.cond (.s 8)
       (.reg ⟨[], [], [(3, .v (.bin .add (.s 3) (.c (.int .i64 (1)))))]⟩)
       .skip)))
     (.reg ⟨[], [], [(6, .v (.bin .add (.s 6) (.c (.int .i64 (1)))))]⟩)))))))
  (.reg ⟨[], [], [(4, .v (.bin .add (.s 4) (.c (.int .i64 (1)))))]⟩))))))
(.seq
(.reg ⟨[], [], [(2, .v (.s 3))]⟩)
.ret)))),
[(2, .v)]⟩
theorem c71 : compFn Try.prog fresh sig [.fz, .fz] [] Try.f71 = some p71 := by kernel_rfl
/-- cromlech/cromlechref11.goes -/
def p73 : Fn := ⟨15, [0, 1, 2, 3, 4, 5, 10, 18, 11, 12, 25, 13, 14, 15, 16],
(.seq
(.reg ⟨[], [], [(5, .m [(.fld (.sz (.s 0) 10) 0), (.fld (.sz (.s 0) 10) 1), (.fld (.sz (.s 0) 10) 2), (.fld (.sz (.s 0) 10) 3), (.fld (.sz (.s 0) 10) 4), (.fld (.sz (.s 0) 10) 5), (.fld (.sz (.s 0) 10) 6), (.fld (.sz (.s 0) 10) 7), (.fld (.sz (.s 0) 10) 8), (.fld (.sz (.s 0) 10) 9)]), (6, .v (.c (.bool false)))]⟩)
(.seq
(.seq
(.reg ⟨[], [], [(7, .v (.bin .eql (.s 2) (.c (.int .u64 (0)))))]⟩)
(.cond (.s 7)
 (.seq
 (.reg ⟨[], [], [(6, .v (.c (.bool true)))]⟩)
 .ret)
 .skip))
(.seq
(.reg ⟨[.call 15 [] (.id 64) false false [(.s 2)]], [], [(8, .v (.ext (.s 15) 0)), (9, .v (.ext (.s 15) 1))]⟩)
(.seq
(.seq
(.reg ⟨[], [], [(10, .v (.bin .neq (.s 9) (.c (.int .i64 (0)))))]⟩)
(.cond (.s 10)
 (.seq
 (.reg ⟨[], [], [(6, .v (.c (.bool false)))]⟩)
 .ret)
 .skip))
(.seq
(.reg ⟨[.call 16 [] (.id 98) false false [(.mm 5 0 10), (.s 3), (.fld (.idx (.s 1) (.s 3) 1) 0), (.s 8)]], [], [(11, .m [(.fld (.sz (.ext (.s 16) 0) 5) 0), (.fld (.sz (.ext (.s 16) 0) 5) 1), (.fld (.sz (.ext (.s 16) 0) 5) 2), (.fld (.sz (.ext (.s 16) 0) 5) 3), (.fld (.sz (.ext (.s 16) 0) 5) 4)]), (12, .v (.ext (.s 16) 1))]⟩)
(.seq
(.reg ⟨[.call 17 [] (.id 98) false false [(.mm 5 0 10), (.s 4), (.fld (.idx (.s 1) (.s 4) 1) 0), (.s 8)]], [], [(13, .m [(.fld (.sz (.ext (.s 17) 0) 5) 0), (.fld (.sz (.ext (.s 17) 0) 5) 1), (.fld (.sz (.ext (.s 17) 0) 5) 2), (.fld (.sz (.ext (.s 17) 0) 5) 3), (.fld (.sz (.ext (.s 17) 0) 5) 4)]), (14, .v (.ext (.s 17) 1))]⟩)
(.seq
(.reg ⟨[.lt 18 [] (.s 12)], [], [(6, .v (.ite (.s 18) (.c (.bool true)) (.s 14)))]⟩)
.ret))))))),
[(6, .v)]⟩
theorem c73 : compFn Try.prog fresh sig [.fz, .fz, .fz, .fz, .fz] [] Try.f73 = some p73 := by kernel_rfl
/-- cromlech/cromlechref11.pointers -/
def p74 : Fn := ⟨17, [0, 1, 2, 3, 6, 7, 8, 23, 9, 10, 44, 11, 12, 13, 63, 72, 78],
(.seq
(.reg ⟨[], [], [(3, .m [(.fld (.sz (.s 0) 10) 0), (.fld (.sz (.s 0) 10) 1), (.fld (.sz (.s 0) 10) 2), (.fld (.sz (.s 0) 10) 3), (.fld (.sz (.s 0) 10) 4), (.fld (.sz (.s 0) 10) 5), (.fld (.sz (.s 0) 10) 6), (.fld (.sz (.s 0) 10) 7), (.fld (.sz (.s 0) 10) 8), (.fld (.sz (.s 0) 10) 9)]), (4, .v (.c (.bool false)))]⟩)
(.seq
(.reg ⟨[.call 17 [] (.id 28) false false [(.mm 3 0 10), (.s 2)]], [], [(5, .v (.s 17))]⟩)
(.seq
(.seq
(.reg ⟨[], [], [(6, .v (.c (.int .i64 (0))))]⟩)
(.block 0
 (.loop [0, 1, 2, 3, 4, 5, 6]
  (.seq
  (.seq
  (.reg ⟨[], [], [(7, .v (.bin .lss (.s 6) (.len (.fld (.idx (.s 1) (.s 2) 1) 0))))]⟩)
  (.cond (.s 7)
   .skip
   (.exit 0)))
  (.seq
  (.block 1
   (.seq
   (.reg ⟨[], [], [(8, .m [(.fld (.flds (.idx (.fld (.idx (.s 1) (.s 2) 1) 0) (.s 6) 5) 0 5) 0), (.fld (.flds (.idx (.fld (.idx (.s 1) (.s 2) 1) 0) (.s 6) 5) 0 5) 1), (.fld (.flds (.idx (.fld (.idx (.s 1) (.s 2) 1) 0) (.s 6) 5) 0 5) 2), (.fld (.flds (.idx (.fld (.idx (.s 1) (.s 2) 1) 0) (.s 6) 5) 0 5) 3), (.fld (.flds (.idx (.fld (.idx (.s 1) (.s 2) 1) 0) (.s 6) 5) 0 5) 4)])]⟩)
   (.seq
   (.reg ⟨[], [], [(9, .v (.bin .add (.m 8 0) (.c (.int .i64 (1)))))]⟩)
   (.block 2
    (.loop [0, 1, 2, 3, 4, 5, 6, 7, 8, 9]
     (.seq
     (.seq
     (.reg ⟨[], [], [(10, .v (.bin .lss (.s 9) (.bin .add (.bin .add (.m 8 0) (.c (.int .i64 (1)))) (.m 8 2))))]⟩)
     (.cond (.s 10)
      .skip
      (.exit 2)))
     (.seq
     (.block 3
      (.seq
      (.reg ⟨[.call 18 [] (.id 73) false false [(.mm 3 0 10), (.s 1), (.fld (.idx (.s 5) (.s 9) 1) 0), (.c (.int .i64 (1))), (.c (.int .i64 (2)))]], [], [(11, .v (.s 18))]⟩)
      (.seq
      (.reg ⟨[.call 19 [] (.id 73) false false [(.mm 3 0 10), (.s 1), (.fld (.idx (.s 5) (.s 9) 1) 0), (.c (.int .i64 (3))), (.c (.int .i64 (4)))]], [], [(12, .v (.s 19))]⟩)
      (.seq
      (.reg ⟨[], [], [(13, .v (.s 11))]⟩)
      (.seq
      (.seq
      (.reg ⟨[], [], [(14, .v (.bin .gtr (.s 2) (.c (.int .i64 (2)))))]⟩)
      (.cond (.s 14)
       (.reg ⟨[], [], [(13, .v (.s 12))]⟩)
       (.seq
       (.reg ⟨[.lt 20 [] (.bin .eql (.s 2) (.c (.int .i64 (1))))], [([(20, true)], (.bin .geq (.s 9) (.m 3 4)))], [(15, .v (.ite (.s 20) (.bin .geq (.s 9) (.m 3 4)) (.c (.bool false))))]⟩)
       (.cond (.s 15)
        (.reg ⟨[.lt 21 [] (.s 11)], [], [(13, .v (.ite (.s 21) (.c (.bool true)) (.s 12)))]⟩)
        .skip))))
      (.seq
      (.reg ⟨[], [], [(16, .v (.un .not (.s 13)))]⟩)
      (.cond (.s 16)
       (.seq
       (.reg ⟨[], [], [(4, .v (.c (.bool false)))]⟩)
       .ret)
       .skip)))))))
     (.reg ⟨[], [], [(9, .v (.bin .add (.s 9) (.c (.int .i64 (1)))))]⟩))))))))
  (.reg ⟨[], [], [(6, .v (.bin .add (.s 6) (.c (.int .i64 (1)))))]⟩))))))
(.seq
(.reg ⟨[], [], [(4, .v (.c (.bool true)))]⟩)
.ret)))),
[(4, .v)]⟩
theorem c74 : compFn Try.prog fresh sig [.fz, .fz, .fz] [] Try.f74 = some p74 := by kernel_rfl
/-- cromlech/cromlechref11.waiting -/
def p75 : Fn := ⟨8, [0, 2, 3, 4, 7, 5, 16, 27],
(.seq
(.reg ⟨[], [], [(1, .v (.c (.int .i64 (0))))]⟩)
(.seq
(.reg ⟨[], [], [(2, .v (.c (.int .i64 (0))))]⟩)
(.seq
(.seq
(.reg ⟨[], [], [(3, .v (.c (.int .i64 (3))))]⟩)
(.block 0
 (.loop [0, 1, 2, 3]
  (.seq
  (.seq
  (.reg ⟨[], [], [(4, .v (.bin .leq (.s 3) (.c (.int .i64 (4)))))]⟩)
  (.cond (.s 4)
   .skip
   (.exit 0)))
  (.seq
  (.block 1
   (.seq
   (.reg ⟨[], [], [(5, .v (.c (.int .i64 (0))))]⟩)
   (.block 2
    (.loop [0, 1, 2, 3, 4, 5]
     (.seq
     (.seq
     (.reg ⟨[], [], [(6, .v (.bin .lss (.s 5) (.len (.fld (.idx (.s 0) (.s 3) 1) 0))))]⟩)
     (.cond (.s 6)
      .skip
      (.exit 2)))
     (.seq
     (.block 3
      (.seq
      (.reg ⟨[], [], [(7, .v (.un .not (.fld (.idx (.fld (.idx (.s 0) (.s 3) 1) 0) (.s 5) 5) 3)))]⟩)
      (.cond (.s 7)
       (.reg ⟨[], [], [(2, .v (.bin .add (.bin .add (.s 2) (.c (.int .i64 (1)))) (.fld (.idx (.fld (.idx (.s 0) (.s 3) 1) 0) (.s 5) 5) 1)))]⟩)
       .skip)))
     (.reg ⟨[], [], [(5, .v (.bin .add (.s 5) (.c (.int .i64 (1)))))]⟩)))))))
  (.reg ⟨[], [], [(3, .v (.bin .add (.s 3) (.c (.int .i64 (1)))))]⟩))))))
(.seq
(.reg ⟨[], [], [(1, .v (.s 2))]⟩)
.ret)))),
[(1, .v)]⟩
theorem c75 : compFn Try.prog fresh sig [.fz] [] Try.f75 = some p75 := by kernel_rfl
end Vm
