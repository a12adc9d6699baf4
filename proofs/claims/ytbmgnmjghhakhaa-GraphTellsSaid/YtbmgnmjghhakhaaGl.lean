/-
  MADE BY A PROGRAM: programs that the compiler makes of functions, and that it makes them.
-/
import Derived.Test.YtbmgnmjghhakhaaGs
namespace Vm
open Go
open Go.Proofs
set_option maxRecDepth 100000
/-- cromlech/cromlechlaw08.GraphTells -/
def p7 : Fn := ⟨32, [0, 1, 2, 3, 4, 5, 6, 9, 10, 12, 13, 14, 15, 35, 88, 87, 89, 17, 86, 103, 124, 123, 125, 19, 122, 21, 20, 22, 24, 23, 25, 155],
(.seq
(.reg ⟨[], [], [(6, .m [(.fld (.sz (.s 0) 2) 0), (.fld (.sz (.s 0) 2) 1)]), (7, .m [(.fld (.sz (.s 3) 7) 0), (.fld (.sz (.s 3) 7) 1), (.fld (.sz (.s 3) 7) 2), (.fld (.sz (.s 3) 7) 3), (.fld (.sz (.s 3) 7) 4), (.fld (.sz (.s 3) 7) 5), (.fld (.sz (.s 3) 7) 6)]), (8, .m [(.fld (.sz (.s 4) 5) 0), (.fld (.sz (.s 4) 5) 1), (.fld (.sz (.s 4) 5) 2), (.fld (.sz (.s 4) 5) 3), (.fld (.sz (.s 4) 5) 4)]), (9, .v (.c (.bool false)))]⟩)
(.seq
(.reg ⟨[.call 32 [] 31 false false []], [], [(10, .v (.s 32))]⟩)
(.seq
(.reg ⟨[], [], [(11, .m [(.c (.sl [])), (.c (.sl []))])]⟩)
(.seq
(.seq
(.reg ⟨[], [], [(12, .v (.c (.int .i64 (0))))]⟩)
(.block 0
 (.loop [0, 1, 2, 3, 4, 5, 6, 7, 8, 9, 10, 11, 12]
  (.seq
  (.seq
  (.reg ⟨[.lt 33 [] (.bin .lss (.s 12) (.len (.m 6 0)))], [([(33, true)], (.bin .lss (.s 12) (.c (.int .i64 (6)))))], [(13, .v (.ite (.s 33) (.bin .lss (.s 12) (.c (.int .i64 (6)))) (.c (.bool false))))]⟩)
  (.cond (.s 13)
   .skip
   (.exit 0)))
  (.seq
  (.block 1
   (.reg ⟨[], [], [(11, .m [(.app (.m 11 0) (.lit [(.ag [(.slc (.fld (.idx (.m 6 0) (.s 12) 2) 0) (.c (.int .i64 (0))) (.mn (.len (.fld (.idx (.m 6 0) (.s 12) 2) 0)) (.c (.int .i64 (6)))) 1), (.slc (.fld (.idx (.m 6 0) (.s 12) 2) 1) (.c (.int .i64 (0))) (.mn (.len (.fld (.idx (.m 6 0) (.s 12) 2) 1)) (.c (.int .i64 (6)))) 1)])]) 2), (.m 11 1)])]⟩))
  (.reg ⟨[], [], [(12, .v (.bin .add (.s 12) (.c (.int .i64 (1)))))]⟩))))))
(.seq
(.reg ⟨[], [], [(11, .m [(.m 11 0), (.slc (.m 6 1) (.c (.int .i64 (0))) (.mn (.len (.m 6 1)) (.c (.int .i64 (20)))) 1)])]⟩)
(.seq
(.seq
(.reg ⟨[.call 34 [] 16 false false [(.s 1), (.s 2)]], [], [(14, .v (.c (.int .i64 (0)))), (15, .v (.len (.lit [(.mm 11 0 2), (.sz (.s 34) 2)]))), (18, .v (.lit [(.mm 11 0 2), (.sz (.s 34) 2)]))]⟩)
(.block 2
 (.loop [0, 1, 2, 3, 4, 5, 6, 7, 8, 9, 10, 11, 12, 13, 14, 15, 18]
  (.seq
  (.reg ⟨[], [], [(16, .v (.bin .lss (.s 14) (.s 15)))]⟩)
  (.seq
  (.cond (.s 16)
   .skip
   (.exit 2))
  (.seq
  (.block 3
   (.seq
   (.reg ⟨[], [], [(17, .m [(.fld (.flds (.idx (.s 18) (.s 14) 2) 0 2) 0), (.fld (.flds (.idx (.s 18) (.s 14) 2) 0 2) 1)])]⟩)
   (.seq
   (.seq
   (.reg ⟨[.call 35 [] 28 false false [(.mm 17 0 2)], .call 36 [] 32 false false [(.mm 17 0 2)], .lt 37 [] (.eqv true (.s 35) (.s 36)), .call 38 [(37, false)] 29 false false [(.mm 17 0 2)], .call 39 [(37, false)] 33 false false [(.mm 17 0 2)]], [([(37, false)], (.bin .neq (.s 38) (.s 39)))], [(19, .v (.ite (.s 37) (.c (.bool true)) (.bin .neq (.s 38) (.s 39))))]⟩)
   (.cond (.s 19)
    (.seq
    (.reg ⟨[], [], [(9, .v (.c (.bool false)))]⟩)
    .ret)
    .skip))
   (.seq
   (.reg ⟨[.call 40 [] 19 false false [(.mm 8 0 5), (.s 5)], .call 41 [] 34 false false [(.m 7 1), (.c (.int .i64 (5)))], .call 42 [] 34 false false [(.m 7 2), (.c (.int .i64 (5)))]], [], [(20, .v (.c (.int .i64 (0)))), (21, .v (.len (.lit [(.mm 7 0 7), (.sz (.s 40) 7), (.ag [(.m 7 0), (.one (.s 41)), (.one (.s 42)), (.m 7 3), (.fld (.mm 7 4 2) 0), (.fld (.mm 7 4 2) 1), (.one (.s 5))])]))), (24, .v (.lit [(.mm 7 0 7), (.sz (.s 40) 7), (.ag [(.m 7 0), (.one (.s 41)), (.one (.s 42)), (.m 7 3), (.fld (.mm 7 4 2) 0), (.fld (.mm 7 4 2) 1), (.one (.s 5))])]))]⟩)
   (.block 4
    (.loop [0, 1, 2, 3, 4, 5, 6, 7, 8, 9, 10, 11, 12, 13, 14, 15, 16, 17, 18, 19, 20, 21, 24]
     (.seq
     (.reg ⟨[], [], [(22, .v (.bin .lss (.s 20) (.s 21)))]⟩)
     (.seq
     (.cond (.s 22)
      .skip
      (.exit 4))
     (.seq
     (.block 5
      (.seq
      (.reg ⟨[], [], [(23, .m [(.fld (.flds (.idx (.s 24) (.s 20) 7) 0 7) 0), (.fld (.flds (.idx (.s 24) (.s 20) 7) 0 7) 1), (.fld (.flds (.idx (.s 24) (.s 20) 7) 0 7) 2), (.fld (.flds (.idx (.s 24) (.s 20) 7) 0 7) 3), (.fld (.flds (.idx (.s 24) (.s 20) 7) 0 7) 4), (.fld (.flds (.idx (.s 24) (.s 20) 7) 0 7) 5), (.fld (.flds (.idx (.s 24) (.s 20) 7) 0 7) 6)])]⟩)
      (.seq
      (.reg ⟨[.call 43 [] 35 false false [(.mm 17 0 2), (.mm 23 0 7)]], [], [(25, .m [(.fld (.sz (.ext (.s 43) 1) 2) 0), (.fld (.sz (.ext (.s 43) 1) 2) 1)]), (26, .v (.ext (.s 43) 0)), (27, .v (.ext (.s 43) 2))]⟩)
      (.seq
      (.reg ⟨[.call 44 [] 18 false false [(.mm 17 0 2), (.mm 23 0 7)]], [], [(28, .m [(.fld (.sz (.ext (.s 44) 1) 2) 0), (.fld (.sz (.ext (.s 44) 1) 2) 1)]), (29, .v (.ext (.s 44) 0)), (30, .v (.ext (.s 44) 2))]⟩)
      (.seq
      (.reg ⟨[.lt 45 [] (.bin .neq (.s 26) (.s 29)), .lt 46 [] (.ite (.s 45) (.c (.bool true)) (.bin .neq (.s 27) (.s 30))), .call 47 [(46, false)] 25 false false [(.mm 25 0 2), (.mm 28 0 2)]], [([(45, false)], (.bin .neq (.s 27) (.s 30))), ([(46, false)], (.un .not (.s 47)))], [(31, .v (.ite (.s 46) (.c (.bool true)) (.un .not (.s 47))))]⟩)
      (.cond (.s 31)
       (.seq
       (.reg ⟨[], [], [(9, .v (.c (.bool false)))]⟩)
       .ret)
       .skip))))))
     (.reg ⟨[], [], [(20, .v (.bin .add (.s 20) (.c (.int .i64 (1)))))]⟩))))))))))
  (.reg ⟨[], [], [(14, .v (.bin .add (.s 14) (.c (.int .i64 (1)))))]⟩)))))))
(.seq
(.reg ⟨[], [], [(9, .v (.s 10))]⟩)
.ret))))))),
[(9, .v)]⟩
theorem c7 : compFn Try.prog fresh sig [.fz, .fz, .fz, .fz, .fz, .fz] [] Try.f7 = some p7 := by kernel_rfl
/-- cromlech/cromlechlaw08.GraphRuns -/
def p11 : Fn := ⟨26, [0, 1, 2, 3, 4, 5, 12, 13, 14, 15, 16, 18, 17, 19, 50, 20, 59, 21, 82, 23, 22, 24, 91, 26, 25, 27],
(.seq
(.reg ⟨[], [], [(6, .v (.c (.bool false)))]⟩)
(.seq
(.reg ⟨[.call 26 [] 31 false false []], [], [(7, .v (.s 26))]⟩)
(.seq
(.reg ⟨[.call 27 [] 16 false false [(.s 0), (.s 1)]], [], [(8, .m [(.fld (.sz (.s 27) 2) 0), (.fld (.sz (.s 27) 2) 1)])]⟩)
(.seq
(.reg ⟨[.call 28 [] 34 false false [(.s 2), (.len (.m 8 1))]], [], [(9, .v (.s 28))]⟩)
(.seq
(.reg ⟨[.call 29 [] 34 false false [(.s 3), (.c (.int .i64 (4)))]], [], [(10, .v (.s 29))]⟩)
(.seq
(.reg ⟨[.call 30 [] 35 false false [(.mm 8 0 2), (.ag [(.c (.int .i64 (5))), (.c (.int .i64 (0))), (.one (.s 9)), (.one (.s 10)), (.c (.int .i64 (0))), (.c (.int .i64 (0))), (.one (.s 4))])]], [], [(11, .m [(.fld (.sz (.ext (.s 30) 1) 2) 0), (.fld (.sz (.ext (.s 30) 1) 2) 1)]), (12, .v (.ext (.s 30) 0)), (13, .v (.ext (.s 30) 2))]⟩)
(.seq
(.seq
(.reg ⟨[], [], [(14, .v (.bin .neq (.s 13) (.c (.int .i64 (0)))))]⟩)
(.cond (.s 14)
 (.seq
 (.reg ⟨[], [], [(6, .v (.s 7))]⟩)
 .ret)
 .skip))
(.seq
(.seq
(.reg ⟨[], [], [(15, .v (.c (.int .i64 (0))))]⟩)
(.block 0
 (.loop [0, 1, 2, 3, 4, 5, 6, 7, 8, 9, 10, 11, 12, 13, 14, 15]
  (.seq
  (.seq
  (.reg ⟨[.lt 31 [] (.bin .lss (.s 15) (.len (.s 5)))], [([(31, true)], (.bin .lss (.s 15) (.c (.int .i64 (12)))))], [(16, .v (.ite (.s 31) (.bin .lss (.s 15) (.c (.int .i64 (12)))) (.c (.bool false))))]⟩)
  (.cond (.s 16)
   .skip
   (.exit 0)))
  (.seq
  (.block 1
   (.seq
   (.reg ⟨[.call 32 [] 19 false false [(.flds (.idx (.s 5) (.s 15) 5) 0 5), (.bin .add (.s 4) (.c (.int .u64 (1))))]], [], [(17, .m [(.fld (.sz (.s 32) 7) 0), (.fld (.sz (.s 32) 7) 1), (.fld (.sz (.s 32) 7) 2), (.fld (.sz (.s 32) 7) 3), (.fld (.sz (.s 32) 7) 4), (.fld (.sz (.s 32) 7) 5), (.fld (.sz (.s 32) 7) 6)])]⟩)
   (.seq
   (.seq
   (.reg ⟨[.lt 33 [] (.bin .eql (.m 17 0) (.c (.int .i64 (5)))), .lt 34 [(33, false)] (.bin .eql (.m 17 1) (.s 9))], [([(33, false), (34, true)], (.bin .neq (.m 17 0) (.c (.int .i64 (4))))), ([(33, false)], (.ite (.s 34) (.bin .neq (.m 17 0) (.c (.int .i64 (4)))) (.c (.bool false))))], [(18, .v (.ite (.s 33) (.c (.bool true)) (.ite (.s 34) (.bin .neq (.m 17 0) (.c (.int .i64 (4)))) (.c (.bool false)))))]⟩)
   (.cond (.s 18)
    (.exit 1)
    .skip))
   (.seq
   (.reg ⟨[.call 35 [] 35 false false [(.mm 11 0 2), (.mm 17 0 7)]], [], [(19, .m [(.fld (.sz (.ext (.s 35) 1) 2) 0), (.fld (.sz (.ext (.s 35) 1) 2) 1)]), (20, .v (.ext (.s 35) 0)), (21, .v (.ext (.s 35) 2))]⟩)
   (.seq
   (.reg ⟨[], [], [(22, .v (.bin .eql (.s 21) (.c (.int .i64 (0)))))]⟩)
   (.cond (.s 22)
    (.reg ⟨[], [], [(11, .m [(.fld (.mm 19 0 2) 0), (.fld (.mm 19 0 2) 1)])]⟩)
    .skip))))))
  (.reg ⟨[], [], [(15, .v (.bin .add (.s 15) (.c (.int .i64 (1)))))]⟩))))))
(.seq
(.reg ⟨[.call 36 [] 35 false false [(.mm 11 0 2), (.ag [(.c (.int .i64 (3))), (.c (.int .i64 (0))), (.one (.s 9)), (.one (.s 10)), (.c (.int .i64 (0))), (.c (.int .i64 (0))), (.c (.int .u64 (0)))])]], [], [(23, .m [(.fld (.sz (.ext (.s 36) 1) 2) 0), (.fld (.sz (.ext (.s 36) 1) 2) 1)]), (24, .v (.ext (.s 36) 0)), (25, .v (.ext (.s 36) 2))]⟩)
(.seq
(.reg ⟨[.lt 37 [] (.s 7), .lt 38 [] (.ite (.s 37) (.bin .eql (.s 25) (.c (.int .i64 (0)))) (.c (.bool false)))], [([(37, true)], (.bin .eql (.s 25) (.c (.int .i64 (0))))), ([(38, true)], (.bin .eql (.s 24) (.s 4)))], [(6, .v (.ite (.s 38) (.bin .eql (.s 24) (.s 4)) (.c (.bool false))))]⟩)
.ret)))))))))),
[(6, .v)]⟩
theorem c11 : compFn Try.prog fresh sig [.fz, .fz, .fz, .fz, .fz, .fz] [] Try.f11 = some p11 := by kernel_rfl
end Vm
