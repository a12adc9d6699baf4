/-
  MADE BY A PROGRAM: programs that the compiler makes of functions, and that it makes them.
-/
import Derived.Test.YtbmgnmjghhakhaaGs
namespace Vm
open Go
open Go.Proofs
set_option maxRecDepth 100000
/-- cromlech/cromlechlaw09.CanonActs -/
def p13 : Fn := ⟨23, [0, 1, 2, 3, 4, 10, 11, 12, 13, 14, 40, 15, 48, 16, 18, 17, 19, 21, 20, 22, 80, 82, 88],
(.seq
(.reg ⟨[], [], [(5, .v (.c (.bool false)))]⟩)
(.seq
(.reg ⟨[.call 23 [] 15 false false []], [], [(6, .v (.s 23))]⟩)
(.seq
(.reg ⟨[.call 24 [] 16 false false [(.s 0), (.s 1)]], [], [(7, .m [(.fld (.sz (.s 24) 2) 0), (.fld (.sz (.s 24) 2) 1)])]⟩)
(.seq
(.reg ⟨[.call 25 [] 17 false false [(.mm 7 0 2), (.s 2), (.bin .eql (.bin .rem (.s 2) (.c (.int .i64 (2)))) (.c (.int .i64 (0))))]], [], [(8, .m [(.fld (.sz (.s 25) 2) 0), (.fld (.sz (.s 25) 2) 1)])]⟩)
(.seq
(.seq
(.reg ⟨[], [], [(9, .v (.c (.int .i64 (0))))]⟩)
(.block 0
 (.loop [0, 1, 2, 3, 4, 5, 6, 7, 8, 9]
  (.seq
  (.seq
  (.reg ⟨[.lt 26 [] (.bin .lss (.s 9) (.len (.s 3)))], [([(26, true)], (.bin .lss (.s 9) (.c (.int .i64 (12)))))], [(10, .v (.ite (.s 26) (.bin .lss (.s 9) (.c (.int .i64 (12)))) (.c (.bool false))))]⟩)
  (.cond (.s 10)
   .skip
   (.exit 0)))
  (.seq
  (.block 1
   (.seq
   (.reg ⟨[], [], [(11, .v (.conv .u64 (.s 9)))]⟩)
   (.seq
   (.seq
   (.reg ⟨[], [], [(12, .v (.bin .lss (.s 9) (.len (.s 4))))]⟩)
   (.cond (.s 12)
    (.reg ⟨[], [], [(11, .v (.fld (.idx (.s 4) (.s 9) 1) 0))]⟩)
    .skip))
   (.seq
   (.reg ⟨[.call 27 [] 19 false false [(.flds (.idx (.s 3) (.s 9) 5) 0 5), (.s 11)]], [], [(13, .m [(.fld (.sz (.s 27) 7) 0), (.fld (.sz (.s 27) 7) 1), (.fld (.sz (.s 27) 7) 2), (.fld (.sz (.s 27) 7) 3), (.fld (.sz (.s 27) 7) 4), (.fld (.sz (.s 27) 7) 5), (.fld (.sz (.s 27) 7) 6)])]⟩)
   (.seq
   (.reg ⟨[.call 28 [] 35 false false [(.mm 7 0 2), (.mm 13 0 7)]], [], [(14, .m [(.fld (.sz (.ext (.s 28) 1) 2) 0), (.fld (.sz (.ext (.s 28) 1) 2) 1)]), (15, .v (.ext (.s 28) 0)), (16, .v (.ext (.s 28) 2))]⟩)
   (.seq
   (.reg ⟨[.call 29 [] 35 false false [(.mm 8 0 2), (.mm 13 0 7)]], [], [(17, .m [(.fld (.sz (.ext (.s 29) 1) 2) 0), (.fld (.sz (.ext (.s 29) 1) 2) 1)]), (18, .v (.ext (.s 29) 0)), (19, .v (.ext (.s 29) 2))]⟩)
   (.seq
   (.seq
   (.reg ⟨[.lt 30 [] (.bin .neq (.s 15) (.s 18))], [([(30, false)], (.bin .neq (.s 16) (.s 19)))], [(20, .v (.ite (.s 30) (.c (.bool true)) (.bin .neq (.s 16) (.s 19))))]⟩)
   (.cond (.s 20)
    (.seq
    (.reg ⟨[], [], [(5, .v (.c (.bool false)))]⟩)
    .ret)
    .skip))
   (.seq
   (.seq
   (.reg ⟨[], [], [(21, .v (.bin .eql (.s 16) (.c (.int .i64 (0)))))]⟩)
   (.cond (.s 21)
    (.seq
    (.reg ⟨[], [], [(7, .m [(.fld (.mm 14 0 2) 0), (.fld (.mm 14 0 2) 1)])]⟩)
    (.reg ⟨[], [], [(8, .m [(.fld (.mm 17 0 2) 0), (.fld (.mm 17 0 2) 1)])]⟩))
    .skip))
   (.seq
   (.reg ⟨[.call 31 [] 26 false false [(.mm 7 0 2), (.mm 8 0 2)]], [], [(22, .v (.un .not (.s 31)))]⟩)
   (.cond (.s 22)
    (.seq
    (.reg ⟨[], [], [(5, .v (.c (.bool false)))]⟩)
    .ret)
    .skip))))))))))
  (.reg ⟨[], [], [(9, .v (.bin .add (.s 9) (.c (.int .i64 (1)))))]⟩))))))
(.seq
(.reg ⟨[], [], [(5, .v (.s 6))]⟩)
.ret)))))),
[(5, .v)]⟩
theorem c13 : compFn Try.prog fresh sig [.fz, .fz, .fz, .fz, .fz] [] Try.f13 = some p13 := by kernel_rfl
/-- cromlech/cromlechlaw09.CanonUnlike -/
def p14 : Fn := ⟨30, [0, 1, 2, 3, 4, 10, 11, 12, 13, 14, 16, 15, 17, 19, 18, 20, 74, 22, 21, 23, 96, 24, 25, 103, 26, 27, 109, 121, 28, 139],
(.seq
(.reg ⟨[], [], [(5, .v (.c (.bool false)))]⟩)
(.seq
(.reg ⟨[.call 30 [] 15 false false []], [], [(6, .v (.s 30))]⟩)
(.seq
(.reg ⟨[.call 31 [] 16 false false [(.s 0), (.s 1)]], [], [(7, .m [(.fld (.sz (.s 31) 2) 0), (.fld (.sz (.s 31) 2) 1)])]⟩)
(.seq
(.reg ⟨[.call 32 [] 30 false false [(.s 2), (.len (.m 7 1))]], [], [(8, .v (.s 32))]⟩)
(.seq
(.reg ⟨[.call 33 [] 30 false false [(.s 3), (.c (.int .i64 (4)))]], [], [(9, .v (.s 33))]⟩)
(.seq
(.reg ⟨[.call 34 [] 35 false false [(.mm 7 0 2), (.ag [(.c (.int .i64 (3))), (.c (.int .i64 (0))), (.one (.s 8)), (.one (.s 9)), (.c (.int .i64 (0))), (.c (.int .i64 (0))), (.c (.int .u64 (0)))])]], [], [(10, .m [(.fld (.sz (.ext (.s 34) 1) 2) 0), (.fld (.sz (.ext (.s 34) 1) 2) 1)]), (11, .v (.ext (.s 34) 0)), (12, .v (.ext (.s 34) 2))]⟩)
(.seq
(.reg ⟨[.call 35 [] 35 false false [(.mm 7 0 2), (.ag [(.c (.int .i64 (5))), (.c (.int .i64 (0))), (.one (.s 8)), (.one (.s 9)), (.c (.int .i64 (0))), (.c (.int .i64 (0))), (.one (.s 4))])]], [], [(13, .m [(.fld (.sz (.ext (.s 35) 1) 2) 0), (.fld (.sz (.ext (.s 35) 1) 2) 1)]), (14, .v (.ext (.s 35) 0)), (15, .v (.ext (.s 35) 2))]⟩)
(.seq
(.seq
(.reg ⟨[.lt 36 [] (.bin .neq (.s 12) (.s 15)), .lt 37 [(36, false)] (.bin .eql (.s 12) (.c (.int .i64 (0)))), .call 38 [(36, false), (37, true)] 26 false false [(.mm 7 0 2), (.mm 13 0 2)]], [([(36, false), (37, true)], (.eqv true (.s 38) (.bin .eql (.s 4) (.s 11)))), ([(36, false)], (.ite (.s 37) (.eqv true (.s 38) (.bin .eql (.s 4) (.s 11))) (.c (.bool false))))], [(16, .v (.ite (.s 36) (.c (.bool true)) (.ite (.s 37) (.eqv true (.s 38) (.bin .eql (.s 4) (.s 11))) (.c (.bool false)))))]⟩)
(.cond (.s 16)
 (.seq
 (.reg ⟨[], [], [(5, .v (.c (.bool false)))]⟩)
 .ret)
 .skip))
(.seq
(.reg ⟨[.call 39 [] 35 false false [(.mm 7 0 2), (.ag [(.c (.int .i64 (7))), (.one (.s 8)), (.c (.int .i64 (0))), (.c (.int .i64 (0))), (.c (.int .i64 (0))), (.c (.int .i64 (0))), (.c (.int .u64 (0)))])]], [], [(17, .m [(.fld (.sz (.ext (.s 39) 1) 2) 0), (.fld (.sz (.ext (.s 39) 1) 2) 1)]), (18, .v (.ext (.s 39) 0)), (19, .v (.ext (.s 39) 2))]⟩)
(.seq
(.seq
(.reg ⟨[.lt 40 [] (.bin .neq (.s 19) (.c (.int .i64 (0)))), .call 41 [(40, false)] 26 false false [(.mm 7 0 2), (.mm 17 0 2)]], [([(40, false)], (.eqv true (.s 41) (.bin .eql (.fld (.idx (.m 7 1) (.s 8) 1) 0) (.c (.int .i64 (-1))))))], [(20, .v (.ite (.s 40) (.c (.bool true)) (.eqv true (.s 41) (.bin .eql (.fld (.idx (.m 7 1) (.s 8) 1) 0) (.c (.int .i64 (-1)))))))]⟩)
(.cond (.s 20)
 (.seq
 (.reg ⟨[], [], [(5, .v (.c (.bool false)))]⟩)
 .ret)
 .skip))
(.seq
(.reg ⟨[.call 42 [] 23 false false [(.mm 7 0 2)]], [], [(21, .v (.s 42))]⟩)
(.seq
(.seq
(.reg ⟨[], [], [(22, .v (.c (.int .i64 (0))))]⟩)
(.block 0
 (.loop [0, 1, 2, 3, 4, 5, 6, 7, 8, 9, 10, 11, 12, 13, 14, 15, 16, 17, 18, 19, 20, 21, 22]
  (.seq
  (.seq
  (.reg ⟨[], [], [(23, .v (.bin .lss (.s 22) (.len (.m 7 0))))]⟩)
  (.cond (.s 23)
   .skip
   (.exit 0)))
  (.seq
  (.block 1
   (.seq
   (.reg ⟨[], [], [(24, .v (.c (.bool false)))]⟩)
   (.seq
   (.seq
   (.reg ⟨[], [], [(25, .v (.c (.int .i64 (0))))]⟩)
   (.block 2
    (.loop [0, 1, 2, 3, 4, 5, 6, 7, 8, 9, 10, 11, 12, 13, 14, 15, 16, 17, 18, 19, 20, 21, 22, 23, 24, 25]
     (.seq
     (.seq
     (.reg ⟨[], [], [(26, .v (.bin .lss (.s 25) (.len (.s 21))))]⟩)
     (.cond (.s 26)
      .skip
      (.exit 2)))
     (.seq
     (.block 3
      (.reg ⟨[.lt 43 [] (.s 24)], [([(43, false)], (.bin .eql (.fld (.idx (.s 21) (.s 25) 1) 0) (.s 22)))], [(24, .v (.ite (.s 43) (.c (.bool true)) (.bin .eql (.fld (.idx (.s 21) (.s 25) 1) 0) (.s 22))))]⟩))
     (.reg ⟨[], [], [(25, .v (.bin .add (.s 25) (.c (.int .i64 (1)))))]⟩))))))
   (.seq
   (.seq
   (.reg ⟨[], [], [(27, .v (.s 24))]⟩)
   (.cond (.s 27)
    (.exit 1)
    .skip))
   (.seq
   (.reg ⟨[], [([], (.ag [(.app (.c (.sl [])) (.m 7 0) 2), (.m 7 1)]))], [(28, .m [(.app (.c (.sl [])) (.m 7 0) 2), (.m 7 1)])]⟩)
   (.seq
   (.reg ⟨[], [([], (.idx (.m 28 0) (.s 22) 2))], [(28, .m [(.upd (.m 28 0) (.s 22) 0 (.ag [(.c (.sl [])), (.lit [(.one (.s 4)), (.one (.s 4))])])), (.m 28 1)])]⟩)
   (.seq
   (.reg ⟨[.call 44 [] 26 false true [(.mm 7 0 2), (.mm 28 0 2)]], [], [(29, .v (.un .not (.s 44)))]⟩)
   (.cond (.s 29)
    (.seq
    (.reg ⟨[], [], [(5, .v (.c (.bool false)))]⟩)
    .ret)
    .skip))))))))
  (.reg ⟨[], [], [(22, .v (.bin .add (.s 22) (.c (.int .i64 (1)))))]⟩))))))
(.seq
(.reg ⟨[], [], [(5, .v (.s 6))]⟩)
.ret))))))))))))),
[(5, .v)]⟩
theorem c14 : compFn Try.prog fresh sig [.fz, .fz, .fz, .fz, .fz] [] Try.f14 = some p14 := by kernel_rfl
end Vm
