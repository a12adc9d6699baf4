/-
  MADE BY A PROGRAM: programs that the compiler makes of functions, and that it makes them.
-/
import Derived.Test.YtfplljcicihneaaGs
namespace Vm
open Go
open Go.Proofs
set_option maxRecDepth 100000
/-- cromlech/cromlechlaw11.CheckTells -/
def p5 : Fn := ⟨33, [0, 1, 2, 3, 4, 5, 6, 7, 8, 14, 15, 16, 17, 32, 18, 19, 20, 93, 92, 94, 22, 91, 108, 112, 111, 113, 24, 110, 25, 26, 27, 28, 136],
(.seq
(.reg ⟨[], [], [(7, .m [(.fld (.sz (.s 0) 10) 0), (.fld (.sz (.s 0) 10) 1), (.fld (.sz (.s 0) 10) 2), (.fld (.sz (.s 0) 10) 3), (.fld (.sz (.s 0) 10) 4), (.fld (.sz (.s 0) 10) 5), (.fld (.sz (.s 0) 10) 6), (.fld (.sz (.s 0) 10) 7), (.fld (.sz (.s 0) 10) 8), (.fld (.sz (.s 0) 10) 9)]), (8, .m [(.fld (.sz (.s 1) 7) 0), (.fld (.sz (.s 1) 7) 1), (.fld (.sz (.s 1) 7) 2), (.fld (.sz (.s 1) 7) 3), (.fld (.sz (.s 1) 7) 4), (.fld (.sz (.s 1) 7) 5), (.fld (.sz (.s 1) 7) 6)]), (9, .v (.c (.bool false)))]⟩)
(.seq
(.reg ⟨[.call 33 [] (.id 26) false false []], [], [(10, .v (.s 33))]⟩)
(.seq
(.reg ⟨[], [], [(11, .m [(.fld (.mm 7 0 10) 0), (.fld (.mm 7 0 10) 1), (.fld (.mm 7 0 10) 2), (.fld (.mm 7 0 10) 3), (.fld (.mm 7 0 10) 4), (.fld (.mm 7 0 10) 5), (.fld (.mm 7 0 10) 6), (.fld (.mm 7 0 10) 7), (.fld (.mm 7 0 10) 8), (.fld (.mm 7 0 10) 9)])]⟩)
(.seq
(.seq
(.reg ⟨[], [], [(12, .v (.c (.int .i64 (1))))]⟩)
(.block 0
 (.loop [0, 1, 2, 3, 4, 5, 6, 7, 8, 9, 10, 11, 12]
  (.seq
  (.seq
  (.reg ⟨[], [], [(13, .v (.bin .leq (.s 12) (.c (.int .i64 (4)))))]⟩)
  (.cond (.s 13)
   .skip
   (.exit 0)))
  (.seq
  (.block 1
   (.reg ⟨[.call 34 [] (.id 28) false false [(.mm 11 0 10), (.s 12)], .call 35 [] (.id 28) false false [(.mm 11 0 10), (.s 12)], .call 36 [] (.id 27) false false [(.mm 11 0 10), (.s 12), (.slc (.s 34) (.c (.int .i64 (0))) (.mn (.len (.s 35)) (.c (.int .i64 (12)))) 1)]], [], [(11, .m [(.fld (.sz (.s 36) 10) 0), (.fld (.sz (.s 36) 10) 1), (.fld (.sz (.s 36) 10) 2), (.fld (.sz (.s 36) 10) 3), (.fld (.sz (.s 36) 10) 4), (.fld (.sz (.s 36) 10) 5), (.fld (.sz (.s 36) 10) 6), (.fld (.sz (.s 36) 10) 7), (.fld (.sz (.s 36) 10) 8), (.fld (.sz (.s 36) 10) 9)])]⟩))
  (.reg ⟨[], [], [(12, .v (.bin .add (.s 12) (.c (.int .i64 (1)))))]⟩))))))
(.seq
(.reg ⟨[], [], [(11, .m [(.m 11 0), (.m 11 1), (.m 11 2), (.m 11 3), (.m 11 4), (.m 11 5), (.m 11 6), (.m 11 7), (.m 11 8), (.slc (.m 7 9) (.c (.int .i64 (0))) (.mn (.len (.m 7 9)) (.c (.int .i64 (20)))) 1)])]⟩)
(.seq
(.reg ⟨[.call 37 [] (.id 16) false false [(.mm 8 0 7)]], [], [(14, .m [(.fld (.sz (.s 37) 10) 0), (.fld (.sz (.s 37) 10) 1), (.fld (.sz (.s 37) 10) 2), (.fld (.sz (.s 37) 10) 3), (.fld (.sz (.s 37) 10) 4), (.fld (.sz (.s 37) 10) 5), (.fld (.sz (.s 37) 10) 6), (.fld (.sz (.s 37) 10) 7), (.fld (.sz (.s 37) 10) 8), (.fld (.sz (.s 37) 10) 9)])]⟩)
(.seq
(.reg ⟨[.call 38 [] (.id 18) false false [(.mm 14 0 10), (.s 2), (.s 3), (.s 4)]], [], [(15, .m [(.fld (.sz (.s 38) 10) 0), (.fld (.sz (.s 38) 10) 1), (.fld (.sz (.s 38) 10) 2), (.fld (.sz (.s 38) 10) 3), (.fld (.sz (.s 38) 10) 4), (.fld (.sz (.s 38) 10) 5), (.fld (.sz (.s 38) 10) 6), (.fld (.sz (.s 38) 10) 7), (.fld (.sz (.s 38) 10) 8), (.fld (.sz (.s 38) 10) 9)])]⟩)
(.seq
(.reg ⟨[], [], [(16, .v (.bin .add (.m 14 0) (.bin .rem (.s 4) (.bin .add (.bin .mul (.c (.int .u64 (2))) (.conv .u64 (.m 14 1))) (.c (.int .u64 (2)))))))]⟩)
(.seq
(.seq
(.reg ⟨[.call 39 [] (.id 29) false false [(.s 3), (.c (.int .i64 (50)))], .call 40 [] (.id 18) false false [(.mm 14 0 10), (.s 2), (.s 39), (.bin .add (.bin .mul (.c (.int .u64 (2))) (.s 16)) (.c (.int .u64 (1))))], .call 41 [] (.id 29) false false [(.s 3), (.c (.int .i64 (50)))], .call 42 [] (.id 18) false false [(.mm 15 0 10), (.s 5), (.s 41), (.bin .add (.bin .mul (.c (.int .u64 (2))) (.s 16)) (.c (.int .u64 (1))))]], [], [(17, .v (.c (.int .i64 (0)))), (18, .v (.len (.lit [(.mm 11 0 10), (.mm 14 0 10), (.mm 15 0 10), (.sz (.s 40) 10), (.sz (.s 42) 10)]))), (21, .v (.lit [(.mm 11 0 10), (.mm 14 0 10), (.mm 15 0 10), (.sz (.s 40) 10), (.sz (.s 42) 10)]))]⟩)
(.block 2
 (.loop [0, 1, 2, 3, 4, 5, 6, 7, 8, 9, 10, 11, 12, 13, 14, 15, 16, 17, 18, 21]
  (.seq
  (.reg ⟨[], [], [(19, .v (.bin .lss (.s 17) (.s 18)))]⟩)
  (.seq
  (.cond (.s 19)
   .skip
   (.exit 2))
  (.seq
  (.block 3
   (.seq
   (.reg ⟨[], [], [(20, .m [(.fld (.flds (.idx (.s 21) (.s 17) 10) 0 10) 0), (.fld (.flds (.idx (.s 21) (.s 17) 10) 0 10) 1), (.fld (.flds (.idx (.s 21) (.s 17) 10) 0 10) 2), (.fld (.flds (.idx (.s 21) (.s 17) 10) 0 10) 3), (.fld (.flds (.idx (.s 21) (.s 17) 10) 0 10) 4), (.fld (.flds (.idx (.s 21) (.s 17) 10) 0 10) 5), (.fld (.flds (.idx (.s 21) (.s 17) 10) 0 10) 6), (.fld (.flds (.idx (.s 21) (.s 17) 10) 0 10) 7), (.fld (.flds (.idx (.s 21) (.s 17) 10) 0 10) 8), (.fld (.flds (.idx (.s 21) (.s 17) 10) 0 10) 9)])]⟩)
   (.seq
   (.seq
   (.reg ⟨[.call 43 [] (.id 30) false false [(.mm 20 0 10)], .call 44 [] (.id 31) false false [(.mm 20 0 10)], .lt 45 [] (.eqv true (.s 43) (.s 44)), .call 46 [(45, false)] (.id 32) false false [(.mm 20 0 10)], .call 47 [(45, false)] (.id 33) false false [(.mm 20 0 10)]], [([(45, false)], (.bin .neq (.s 46) (.s 47)))], [(22, .v (.ite (.s 45) (.c (.bool true)) (.bin .neq (.s 46) (.s 47))))]⟩)
   (.cond (.s 22)
    (.seq
    (.reg ⟨[], [], [(9, .v (.c (.bool false)))]⟩)
    .ret)
    .skip))
   (.seq
   (.reg ⟨[], [], [(23, .v (.c (.int .i64 (0)))), (24, .v (.len (.lit [(.c (.int .i64 (1))), (.c (.int .i64 (2))), (.c (.int .i64 (3))), (.c (.int .i64 (4))), (.one (.s 6))]))), (27, .v (.lit [(.c (.int .i64 (1))), (.c (.int .i64 (2))), (.c (.int .i64 (3))), (.c (.int .i64 (4))), (.one (.s 6))]))]⟩)
   (.block 4
    (.loop [0, 1, 2, 3, 4, 5, 6, 7, 8, 9, 10, 11, 12, 13, 14, 15, 16, 17, 18, 19, 20, 21, 22, 23, 24, 27]
     (.seq
     (.reg ⟨[], [], [(25, .v (.bin .lss (.s 23) (.s 24)))]⟩)
     (.seq
     (.cond (.s 25)
      .skip
      (.exit 4))
     (.seq
     (.block 5
      (.seq
      (.reg ⟨[], [], [(26, .v (.fld (.idx (.s 27) (.s 23) 1) 0))]⟩)
      (.seq
      (.reg ⟨[.call 48 [] (.id 34) false false [(.mm 20 0 10), (.s 26)]], [], [(28, .v (.ext (.s 48) 0)), (29, .v (.ext (.s 48) 1))]⟩)
      (.seq
      (.reg ⟨[.call 49 [] (.id 35) false false [(.mm 20 0 10), (.s 26)]], [], [(30, .v (.ext (.s 49) 0)), (31, .v (.ext (.s 49) 1))]⟩)
      (.seq
      (.reg ⟨[.lt 50 [] (.bin .neq (.s 29) (.s 31)), .call 51 [(50, false)] (.id 36) false false [(.s 28), (.s 30)]], [([(50, false)], (.un .not (.s 51)))], [(32, .v (.ite (.s 50) (.c (.bool true)) (.un .not (.s 51))))]⟩)
      (.cond (.s 32)
       (.seq
       (.reg ⟨[], [], [(9, .v (.c (.bool false)))]⟩)
       .ret)
       .skip))))))
     (.reg ⟨[], [], [(23, .v (.bin .add (.s 23) (.c (.int .i64 (1)))))]⟩))))))))))
  (.reg ⟨[], [], [(17, .v (.bin .add (.s 17) (.c (.int .i64 (1)))))]⟩)))))))
(.seq
(.reg ⟨[], [], [(9, .v (.s 10))]⟩)
.ret)))))))))),
[(9, .v)]⟩
theorem c5 : compFn Try.prog fresh sig [.fz, .fz, .fz, .fz, .fz, .fz, .fz] [] Try.f5 = some p5 := by kernel_rfl
/-- cromlech/cromlechlaw11.CheckParts -/
def p8 : Fn := ⟨11, [0, 1, 2, 3, 4, 5, 18, 21, 6, 7, 8],
(.seq
(.reg ⟨[], [], [(1, .m [(.fld (.sz (.s 0) 7) 0), (.fld (.sz (.s 0) 7) 1), (.fld (.sz (.s 0) 7) 2), (.fld (.sz (.s 0) 7) 3), (.fld (.sz (.s 0) 7) 4), (.fld (.sz (.s 0) 7) 5), (.fld (.sz (.s 0) 7) 6)]), (2, .v (.c (.bool false)))]⟩)
(.seq
(.reg ⟨[.call 11 [] (.id 26) false false []], [], [(3, .v (.s 11))]⟩)
(.seq
(.reg ⟨[.call 12 [] (.id 16) false false [(.mm 1 0 7)]], [], [(4, .m [(.fld (.sz (.s 12) 10) 0), (.fld (.sz (.s 12) 10) 1), (.fld (.sz (.s 12) 10) 2), (.fld (.sz (.s 12) 10) 3), (.fld (.sz (.s 12) 10) 4), (.fld (.sz (.s 12) 10) 5), (.fld (.sz (.s 12) 10) 6), (.fld (.sz (.s 12) 10) 7), (.fld (.sz (.s 12) 10) 8), (.fld (.sz (.s 12) 10) 9)])]⟩)
(.seq
(.reg ⟨[], [], [(5, .m [(.fld (.mm 4 0 10) 0), (.fld (.mm 4 0 10) 1), (.fld (.mm 4 0 10) 2), (.fld (.mm 4 0 10) 3), (.fld (.mm 4 0 10) 4), (.fld (.mm 4 0 10) 5), (.fld (.mm 4 0 10) 6), (.fld (.mm 4 0 10) 7), (.fld (.mm 4 0 10) 8), (.fld (.mm 4 0 10) 9)])]⟩)
(.seq
(.reg ⟨[], [], [(5, .m [(.m 5 0), (.m 5 1), (.m 5 2), (.un .not (.m 4 3)), (.m 5 4), (.m 5 5), (.m 5 6), (.m 5 7), (.m 5 8), (.m 5 9)])]⟩)
(.seq
(.seq
(.reg ⟨[.call 6 [] (.id 30) false false [(.mm 5 0 10)]], [], []⟩)
(.cond (.s 6)
 (.seq
 (.reg ⟨[], [], [(2, .v (.c (.bool false)))]⟩)
 .ret)
 .skip))
(.seq
(.seq
(.reg ⟨[], [], [(7, .v (.un .not (.m 4 3)))]⟩)
(.cond (.s 7)
 (.seq
 (.reg ⟨[], [], [(8, .m [(.fld (.mm 4 0 10) 0), (.fld (.mm 4 0 10) 1), (.fld (.mm 4 0 10) 2), (.fld (.mm 4 0 10) 3), (.fld (.mm 4 0 10) 4), (.fld (.mm 4 0 10) 5), (.fld (.mm 4 0 10) 6), (.fld (.mm 4 0 10) 7), (.fld (.mm 4 0 10) 8), (.fld (.mm 4 0 10) 9)])]⟩)
 (.seq
 (.reg ⟨[], [], [(8, .m [(.m 8 0), (.m 8 1), (.m 8 2), (.m 8 3), (.m 8 4), (.m 8 5), (.m 8 6), (.lit [(.c (.int .u64 (0)))]), (.m 8 8), (.m 8 9)])]⟩)
 (.seq
 (.reg ⟨[], [], [(8, .m [(.m 8 0), (.bin .add (.m 4 1) (.c (.int .i64 (1)))), (.m 8 2), (.m 8 3), (.m 8 4), (.m 8 5), (.m 8 6), (.m 8 7), (.m 8 8), (.m 8 9)])]⟩)
 (.seq
 (.reg ⟨[.lt 13 [] (.s 3), .call 14 [(13, true)] (.id 30) false true [(.mm 8 0 10)]], [([(13, true)], (.un .not (.s 14)))], [(2, .v (.ite (.s 13) (.un .not (.s 14)) (.c (.bool false))))]⟩)
 .ret))))
 .skip))
(.seq
(.reg ⟨[], [], [(9, .m [(.fld (.mm 4 0 10) 0), (.fld (.mm 4 0 10) 1), (.fld (.mm 4 0 10) 2), (.fld (.mm 4 0 10) 3), (.fld (.mm 4 0 10) 4), (.fld (.mm 4 0 10) 5), (.fld (.mm 4 0 10) 6), (.fld (.mm 4 0 10) 7), (.fld (.mm 4 0 10) 8), (.fld (.mm 4 0 10) 9)])]⟩)
(.seq
(.reg ⟨[], [], [(9, .m [(.m 9 0), (.m 9 1), (.m 9 2), (.m 9 3), (.len (.m 4 5)), (.m 9 5), (.m 9 6), (.m 9 7), (.m 9 8), (.m 9 9)])]⟩)
(.seq
(.reg ⟨[], [], [(10, .m [(.fld (.mm 4 0 10) 0), (.fld (.mm 4 0 10) 1), (.fld (.mm 4 0 10) 2), (.fld (.mm 4 0 10) 3), (.fld (.mm 4 0 10) 4), (.fld (.mm 4 0 10) 5), (.fld (.mm 4 0 10) 6), (.fld (.mm 4 0 10) 7), (.fld (.mm 4 0 10) 8), (.fld (.mm 4 0 10) 9)])]⟩)
(.seq
(.reg ⟨[], [], [(10, .m [(.m 10 0), (.bin .add (.m 4 1) (.c (.int .i64 (1000)))), (.m 10 2), (.m 10 3), (.m 10 4), (.m 10 5), (.m 10 6), (.m 10 7), (.m 10 8), (.m 10 9)])]⟩)
(.seq
(.reg ⟨[], [], [(10, .m [(.m 10 0), (.m 10 1), (.m 10 2), (.m 10 3), (.m 10 4), (.m 10 5), (.m 10 6), (.app (.app (.c (.sl [])) (.m 4 7) 1) (.lit [(.bin .or (.fld (.idx (.m 4 9) (.c (.int .i64 (0))) 1) 0) (.c (.int .u64 (1))))]) 1), (.m 10 8), (.m 10 9)])]⟩)
(.seq
(.reg ⟨[.lt 15 [] (.s 3), .call 16 [(15, true)] (.id 30) false false [(.mm 9 0 10)], .lt 17 [] (.ite (.s 15) (.un .not (.s 16)) (.c (.bool false))), .call 18 [(17, true)] (.id 30) false true [(.mm 10 0 10)]], [([(15, true)], (.un .not (.s 16))), ([(17, true)], (.un .not (.s 18)))], [(2, .v (.ite (.s 17) (.un .not (.s 18)) (.c (.bool false))))]⟩)
.ret))))))))))))),
[(2, .v)]⟩
theorem c8 : compFn Try.prog fresh sig [.fz] [] Try.f8 = some p8 := by kernel_rfl
/-- cromlech/cromlechlaw11.awake -/
def p26 : Fn := ⟨11, [0, 1, 2, 3, 4, 5, 6, 7, 8, 9, 10],
(.seq
(.reg ⟨[], [], [(0, .v (.c (.bool false)))]⟩)
(.seq
(.reg ⟨[], [([], (.ag [(.c (.int .u64 (10))), (.c (.int .i64 (5))), (.c (.int .i64 (0))), (.c (.bool false)), (.c (.int .i64 (2))), (.lit [(.c (.int .u64 (2))), (.c (.int .u64 (6)))]), (.c (.sl [])), (.c (.sl [])), (.c (.sl [])), (.lit [(.c (.int .u64 (21)))])]))], [(1, .m [(.c (.int .u64 (10))), (.c (.int .i64 (5))), (.c (.int .i64 (0))), (.c (.bool false)), (.c (.int .i64 (2))), (.lit [(.c (.int .u64 (2))), (.c (.int .u64 (6)))]), (.c (.sl [])), (.c (.sl [])), (.c (.sl [])), (.lit [(.c (.int .u64 (21)))])])]⟩)
(.seq
(.reg ⟨[], [], [(2, .m [(.fld (.mm 1 0 10) 0), (.fld (.mm 1 0 10) 1), (.fld (.mm 1 0 10) 2), (.fld (.mm 1 0 10) 3), (.fld (.mm 1 0 10) 4), (.fld (.mm 1 0 10) 5), (.fld (.mm 1 0 10) 6), (.fld (.mm 1 0 10) 7), (.fld (.mm 1 0 10) 8), (.fld (.mm 1 0 10) 9)])]⟩)
(.seq
(.reg ⟨[], [], [(2, .m [(.m 2 0), (.m 2 1), (.m 2 2), (.m 2 3), (.m 2 4), (.m 2 5), (.m 2 6), (.m 2 7), (.m 2 8), (.lit [(.c (.int .u64 (23)))])])]⟩)
(.seq
(.reg ⟨[], [([], (.ag [(.c (.int .u64 (10))), (.c (.int .i64 (5))), (.c (.int .i64 (1))), (.c (.bool true)), (.c (.int .i64 (0))), (.lit [(.c (.int .u64 (2))), (.c (.int .u64 (6)))]), (.c (.sl [])), (.lit [(.c (.int .u64 (31))), (.c (.int .u64 (0)))]), (.c (.sl [])), (.lit [(.c (.int .u64 (31)))])]))], [(3, .m [(.c (.int .u64 (10))), (.c (.int .i64 (5))), (.c (.int .i64 (1))), (.c (.bool true)), (.c (.int .i64 (0))), (.lit [(.c (.int .u64 (2))), (.c (.int .u64 (6)))]), (.c (.sl [])), (.lit [(.c (.int .u64 (31))), (.c (.int .u64 (0)))]), (.c (.sl [])), (.lit [(.c (.int .u64 (31)))])])]⟩)
(.seq
(.reg ⟨[.call 11 [] (.id 34) false false [(.mm 3 0 10), (.c (.int .i64 (3)))]], [], [(4, .v (.ext (.s 11) 0)), (5, .v (.fl (.ext (.s 11) 1)))]⟩)
(.seq
(.reg ⟨[.call 12 [] (.id 34) false false [(.mm 3 0 10), (.c (.int .i64 (5)))]], [], [(6, .v (.ext (.s 12) 0)), (7, .v (.ext (.s 12) 1))]⟩)
(.seq
(.reg ⟨[.call 13 [] (.id 34) false false [(.mm 2 0 10), (.c (.int .i64 (1)))]], [], [(8, .v (.ext (.s 13) 0)), (9, .v (.fl (.ext (.s 13) 1)))]⟩)
(.seq
(.reg ⟨[], [], [(10, .m [(.fld (.mm 3 0 10) 0), (.fld (.mm 3 0 10) 1), (.fld (.mm 3 0 10) 2), (.fld (.mm 3 0 10) 3), (.fld (.mm 3 0 10) 4), (.fld (.mm 3 0 10) 5), (.fld (.mm 3 0 10) 6), (.fld (.mm 3 0 10) 7), (.fld (.mm 3 0 10) 8), (.fld (.mm 3 0 10) 9)])]⟩)
(.seq
(.reg ⟨[], [], [(10, .m [(.m 10 0), (.m 10 1), (.m 10 2), (.m 10 3), (.m 10 4), (.m 10 5), (.m 10 6), (.m 10 7), (.lit [(.c (.int .u64 (0)))]), (.m 10 9)])]⟩)
(.seq
(.reg ⟨[.call 14 [] (.id 30) false false [(.mm 1 0 10)], .lt 15 [] (.s 14), .call 16 [(15, true)] (.id 30) false false [(.mm 2 0 10)], .lt 17 [] (.ite (.s 15) (.un .not (.s 16)) (.c (.bool false))), .call 18 [(17, true)] (.id 30) false false [(.mm 3 0 10)], .lt 19 [] (.ite (.s 17) (.s 18) (.c (.bool false))), .lt 20 [] (.ite (.s 19) (.bin .eql (.s 5) (.c (.int .i64 (0)))) (.c (.bool false))), .call 21 [(20, true)] (.id 36) false false [(.s 4), (.lit [(.ag [(.c (.int .i64 (0))), (.fld (.ag [(.c (.int .i64 (1))), (.c (.int .i64 (0)))]) 0), (.fld (.ag [(.c (.int .i64 (1))), (.c (.int .i64 (0)))]) 1), (.c (.bool true)), (.c (.int .u64 (15)))])])], .lt 22 [] (.ite (.s 20) (.s 21) (.c (.bool false))), .lt 23 [] (.ite (.s 22) (.bin .eql (.s 7) (.c (.int .i64 (1)))) (.c (.bool false))), .lt 24 [] (.ite (.s 23) (.bin .eql (.s 9) (.c (.int .i64 (1)))) (.c (.bool false))), .call 25 [(24, true)] (.id 32) false false [(.mm 3 0 10)], .lt 26 [] (.ite (.s 24) (.bin .eql (.s 25) (.c (.int .i64 (0)))) (.c (.bool false))), .call 27 [(26, true)] (.id 32) false true [(.mm 10 0 10)], .lt 28 [] (.ite (.s 26) (.bin .eql (.s 27) (.c (.int .i64 (1)))) (.c (.bool false))), .call 29 [(28, true)] (.id 30) false false [(.ag [(.c (.int .u64 (0))), (.c (.int .i64 (0))), (.c (.int .i64 (0))), (.c (.bool false)), (.c (.int .i64 (0))), (.c (.sl [])), (.c (.sl [])), (.c (.sl [])), (.c (.sl [])), (.c (.sl []))])]], [([(15, true)], (.un .not (.s 16))), ([(19, true)], (.bin .eql (.s 5) (.c (.int .i64 (0))))), ([(22, true)], (.bin .eql (.s 7) (.c (.int .i64 (1))))), ([(23, true)], (.bin .eql (.s 9) (.c (.int .i64 (1))))), ([(24, true)], (.bin .eql (.s 25) (.c (.int .i64 (0))))), ([(26, true)], (.bin .eql (.s 27) (.c (.int .i64 (1))))), ([(28, true)], (.un .not (.s 29)))], [(0, .v (.ite (.s 28) (.un .not (.s 29)) (.c (.bool false))))]⟩)
.ret))))))))))),
[(0, .v)]⟩
theorem c26 : compFn Try.prog fresh sig [] [] Try.f26 = some p26 := by kernel_rfl
end Vm
