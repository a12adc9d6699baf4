/-
  MADE BY A PROGRAM: programs that the compiler makes of functions, and that it makes them.
-/
import Derived.Test.YtbmgnmjghhakhaaGs
namespace Vm
open Go
open Go.Proofs
set_option maxRecDepth 100000
/-- cromlech/cromlechlaw08.GraphKeeps -/
def p9 : Fn := ⟨34, [0, 1, 2, 3, 6, 8, 9, 10, 11, 13, 12, 14, 38, 90, 15, 16, 102, 115, 134, 17, 139, 18, 19, 167, 20, 172, 185, 206, 21, 211, 224, 245, 22, 248],
(.seq
(.reg ⟨[], [], [(4, .m [(.fld (.sz (.s 2) 5) 0), (.fld (.sz (.s 2) 5) 1), (.fld (.sz (.s 2) 5) 2), (.fld (.sz (.s 2) 5) 3), (.fld (.sz (.s 2) 5) 4)]), (5, .v (.c (.bool false)))]⟩)
(.seq
(.reg ⟨[.call 34 [] 31 false false []], [], [(6, .v (.s 34))]⟩)
(.seq
(.reg ⟨[.call 35 [] 16 false false [(.s 0), (.s 1)]], [], [(7, .m [(.fld (.sz (.s 35) 2) 0), (.fld (.sz (.s 35) 2) 1)])]⟩)
(.seq
(.reg ⟨[.call 36 [] 19 false false [(.mm 4 0 5), (.s 3)]], [], [(8, .m [(.fld (.sz (.s 36) 7) 0), (.fld (.sz (.s 36) 7) 1), (.fld (.sz (.s 36) 7) 2), (.fld (.sz (.s 36) 7) 3), (.fld (.sz (.s 36) 7) 4), (.fld (.sz (.s 36) 7) 5), (.fld (.sz (.s 36) 7) 6)])]⟩)
(.seq
(.reg ⟨[.call 37 [] 35 false false [(.mm 7 0 2), (.mm 8 0 7)]], [], [(9, .m [(.fld (.sz (.ext (.s 37) 1) 2) 0), (.fld (.sz (.ext (.s 37) 1) 2) 1)]), (10, .v (.ext (.s 37) 0)), (11, .v (.ext (.s 37) 2))]⟩)
(.seq
(.seq
(.reg ⟨[], [], [(12, .v (.bin .neq (.s 11) (.c (.int .i64 (0)))))]⟩)
(.cond (.s 12)
 (.seq
 (.reg ⟨[.lt 38 [] (.s 6), .lt 39 [(38, true)] (.bin .eql (.s 11) (.c (.int .i64 (1)))), .lt 40 [] (.ite (.s 38) (.ite (.s 39) (.c (.bool true)) (.bin .eql (.s 11) (.c (.int .i64 (6))))) (.c (.bool false))), .lt 41 [] (.ite (.s 40) (.bin .eql (.len (.m 9 0)) (.c (.int .i64 (0)))) (.c (.bool false)))], [([(38, true), (39, false)], (.bin .eql (.s 11) (.c (.int .i64 (6))))), ([(38, true)], (.ite (.s 39) (.c (.bool true)) (.bin .eql (.s 11) (.c (.int .i64 (6)))))), ([(40, true)], (.bin .eql (.len (.m 9 0)) (.c (.int .i64 (0))))), ([(41, true)], (.bin .eql (.len (.m 9 1)) (.c (.int .i64 (0)))))], [(5, .v (.ite (.s 41) (.bin .eql (.len (.m 9 1)) (.c (.int .i64 (0)))) (.c (.bool false))))]⟩)
 .ret)
 .skip))
(.seq
(.seq
(.reg ⟨[.call 42 [] 28 false false [(.mm 9 0 2)], .lt 43 [] (.un .not (.s 42)), .lt 44 [] (.ite (.s 43) (.c (.bool true)) (.bin .neq (.len (.m 9 1)) (.len (.m 7 1)))), .lt 45 [] (.ite (.s 44) (.c (.bool true)) (.bin .lss (.len (.m 9 0)) (.len (.m 7 0))))], [([(43, false)], (.bin .neq (.len (.m 9 1)) (.len (.m 7 1)))), ([(44, false)], (.bin .lss (.len (.m 9 0)) (.len (.m 7 0)))), ([(45, false)], (.bin .gtr (.len (.m 9 0)) (.bin .add (.len (.m 7 0)) (.c (.int .i64 (1))))))], [(13, .v (.ite (.s 45) (.c (.bool true)) (.bin .gtr (.len (.m 9 0)) (.bin .add (.len (.m 7 0)) (.c (.int .i64 (1)))))))]⟩)
(.cond (.s 13)
 (.seq
 (.reg ⟨[], [], [(5, .v (.c (.bool false)))]⟩)
 .ret)
 .skip))
(.seq
(.reg ⟨[], [], [(14, .v (.bin .sub (.len (.m 9 0)) (.len (.m 7 0))))]⟩)
(.seq
(.seq
(.reg ⟨[], [], [(15, .v (.c (.int .i64 (0))))]⟩)
(.block 0
 (.loop [0, 1, 2, 3, 4, 5, 6, 7, 8, 9, 10, 11, 12, 13, 14, 15]
  (.seq
  (.seq
  (.reg ⟨[], [], [(16, .v (.bin .lss (.s 15) (.len (.m 7 1))))]⟩)
  (.cond (.s 16)
   .skip
   (.exit 0)))
  (.seq
  (.block 1
   (.seq
   (.reg ⟨[], [], [(17, .v (.bin .neq (.fld (.idx (.m 9 1) (.s 15) 1) 0) (.fld (.idx (.m 7 1) (.s 15) 1) 0)))]⟩)
   (.cond (.s 17)
    (.seq
    (.reg ⟨[.lt 46 [] (.bin .neq (.s 15) (.m 8 1)), .lt 47 [] (.ite (.s 46) (.c (.bool true)) (.bin .eql (.m 8 0) (.c (.int .i64 (3))))), .lt 48 [] (.ite (.s 47) (.c (.bool true)) (.bin .eql (.m 8 0) (.c (.int .i64 (5)))))], [([(46, false)], (.bin .eql (.m 8 0) (.c (.int .i64 (3))))), ([(47, false)], (.bin .eql (.m 8 0) (.c (.int .i64 (5))))), ([(48, false)], (.bin .eql (.m 8 0) (.c (.int .i64 (4)))))], [(18, .v (.ite (.s 48) (.c (.bool true)) (.bin .eql (.m 8 0) (.c (.int .i64 (4))))))]⟩)
    (.cond (.s 18)
     (.seq
     (.reg ⟨[], [], [(5, .v (.c (.bool false)))]⟩)
     .ret)
     .skip))
    .skip)))
  (.reg ⟨[], [], [(15, .v (.bin .add (.s 15) (.c (.int .i64 (1)))))]⟩))))))
(.seq
(.seq
(.reg ⟨[], [], [(19, .v (.c (.int .i64 (0))))]⟩)
(.block 2
 (.loop [0, 1, 2, 3, 4, 5, 6, 7, 8, 9, 10, 11, 12, 13, 14, 15, 16, 19]
  (.seq
  (.seq
  (.reg ⟨[], [], [(20, .v (.bin .lss (.s 19) (.len (.m 7 0))))]⟩)
  (.cond (.s 20)
   .skip
   (.exit 2)))
  (.seq
  (.block 3
   (.seq
   (.reg ⟨[], [], [(21, .m [(.fld (.flds (.idx (.m 7 0) (.s 19) 2) 0 2) 0), (.fld (.flds (.idx (.m 7 0) (.s 19) 2) 0 2) 1)])]⟩)
   (.seq
   (.reg ⟨[], [], [(22, .m [(.fld (.flds (.idx (.m 9 0) (.s 19) 2) 0 2) 0), (.fld (.flds (.idx (.m 9 0) (.s 19) 2) 0 2) 1)])]⟩)
   (.seq
   (.seq
   (.reg ⟨[.lt 49 [] (.bin .neq (.len (.m 21 0)) (.len (.m 22 0)))], [([(49, false)], (.bin .neq (.len (.m 21 1)) (.len (.m 22 1))))], [(23, .v (.ite (.s 49) (.c (.bool true)) (.bin .neq (.len (.m 21 1)) (.len (.m 22 1)))))]⟩)
   (.cond (.s 23)
    (.seq
    (.reg ⟨[], [], [(5, .v (.c (.bool false)))]⟩)
    .ret)
    .skip))
   (.seq
   (.seq
   (.reg ⟨[], [], [(24, .v (.c (.int .i64 (0))))]⟩)
   (.block 4
    (.loop [0, 1, 2, 3, 4, 5, 6, 7, 8, 9, 10, 11, 12, 13, 14, 15, 16, 19, 20, 21, 22, 23, 24]
     (.seq
     (.seq
     (.reg ⟨[], [], [(25, .v (.bin .lss (.s 24) (.len (.m 21 0))))]⟩)
     (.cond (.s 25)
      .skip
      (.exit 4)))
     (.seq
     (.block 5
      (.seq
      (.reg ⟨[], [], [(26, .v (.bin .neq (.fld (.idx (.m 21 0) (.s 24) 1) 0) (.fld (.idx (.m 22 0) (.s 24) 1) 0)))]⟩)
      (.cond (.s 26)
       (.seq
       (.reg ⟨[], [], [(14, .v (.bin .add (.s 14) (.c (.int .i64 (1)))))]⟩)
       (.seq
       (.reg ⟨[.lt 50 [] (.bin .neq (.m 8 0) (.c (.int .i64 (4)))), .lt 51 [] (.ite (.s 50) (.c (.bool true)) (.bin .neq (.s 19) (.fld (.idx (.m 7 1) (.m 8 2) 1) 0)))], [([(50, false)], (.bin .neq (.s 19) (.fld (.idx (.m 7 1) (.m 8 2) 1) 0))), ([(51, false)], (.bin .neq (.s 24) (.m 8 3)))], [(27, .v (.ite (.s 51) (.c (.bool true)) (.bin .neq (.s 24) (.m 8 3))))]⟩)
       (.cond (.s 27)
        (.seq
        (.reg ⟨[], [], [(5, .v (.c (.bool false)))]⟩)
        .ret)
        .skip)))
       .skip)))
     (.reg ⟨[], [], [(24, .v (.bin .add (.s 24) (.c (.int .i64 (1)))))]⟩))))))
   (.seq
   (.reg ⟨[], [], [(28, .v (.c (.int .i64 (0))))]⟩)
   (.block 6
    (.loop [0, 1, 2, 3, 4, 5, 6, 7, 8, 9, 10, 11, 12, 13, 14, 15, 16, 19, 20, 21, 22, 23, 24, 25, 28]
     (.seq
     (.seq
     (.reg ⟨[], [], [(29, .v (.bin .lss (.s 28) (.len (.m 21 1))))]⟩)
     (.cond (.s 29)
      .skip
      (.exit 6)))
     (.seq
     (.block 7
      (.seq
      (.reg ⟨[], [], [(30, .v (.bin .neq (.fld (.idx (.m 21 1) (.s 28) 1) 0) (.fld (.idx (.m 22 1) (.s 28) 1) 0)))]⟩)
      (.cond (.s 30)
       (.seq
       (.reg ⟨[], [], [(14, .v (.bin .add (.s 14) (.c (.int .i64 (1)))))]⟩)
       (.seq
       (.reg ⟨[.lt 52 [] (.bin .neq (.m 8 0) (.c (.int .i64 (5)))), .lt 53 [] (.ite (.s 52) (.c (.bool true)) (.bin .neq (.s 19) (.fld (.idx (.m 7 1) (.m 8 2) 1) 0)))], [([(52, false)], (.bin .neq (.s 19) (.fld (.idx (.m 7 1) (.m 8 2) 1) 0))), ([(53, false)], (.bin .neq (.s 28) (.m 8 3)))], [(31, .v (.ite (.s 53) (.c (.bool true)) (.bin .neq (.s 28) (.m 8 3))))]⟩)
       (.cond (.s 31)
        (.seq
        (.reg ⟨[], [], [(5, .v (.c (.bool false)))]⟩)
        .ret)
        .skip)))
       .skip)))
     (.reg ⟨[], [], [(28, .v (.bin .add (.s 28) (.c (.int .i64 (1)))))]⟩)))))))))))
  (.reg ⟨[], [], [(19, .v (.bin .add (.s 19) (.c (.int .i64 (1)))))]⟩))))))
(.seq
(.reg ⟨[], [], [(32, .v (.c (.int .i64 (0))))]⟩)
(.seq
(.seq
(.reg ⟨[], [], [(33, .v (.bin .eql (.m 8 0) (.c (.int .i64 (1)))))]⟩)
(.cond (.s 33)
 (.reg ⟨[], [], [(32, .v (.bin .add (.c (.int .i64 (1))) (.m 8 4)))]⟩)
 .skip))
(.seq
(.reg ⟨[.lt 54 [] (.s 6), .lt 55 [] (.ite (.s 54) (.bin .leq (.s 14) (.c (.int .i64 (1)))) (.c (.bool false))), .call 56 [(55, true)] 29 false false [(.mm 9 0 2)], .call 57 [(55, true)] 29 false false [(.mm 7 0 2)]], [([(54, true)], (.bin .leq (.s 14) (.c (.int .i64 (1))))), ([(55, true)], (.bin .eql (.s 56) (.bin .add (.s 57) (.s 32))))], [(5, .v (.ite (.s 55) (.bin .eql (.s 56) (.bin .add (.s 57) (.s 32))) (.c (.bool false))))]⟩)
.ret))))))))))))),
[(5, .v)]⟩
theorem c9 : compFn Try.prog fresh sig [.fz, .fz, .fz, .fz] [] Try.f9 = some p9 := by kernel_rfl
/-- cromlech/cromlechlaw08.GraphShape -/
def p12 : Fn := ⟨26, [0, 1, 2, 3, 4, 10, 11, 12, 13, 14, 16, 15, 17, 18, 102, 19, 107, 120, 20, 123, 21, 134, 147, 23, 22, 24],
(.seq
(.reg ⟨[], [], [(5, .v (.c (.bool false)))]⟩)
(.seq
(.reg ⟨[.call 26 [] 31 false false []], [], [(6, .v (.s 26))]⟩)
(.seq
(.reg ⟨[.call 27 [] 16 false false [(.s 0), (.s 1)]], [], [(7, .m [(.fld (.sz (.s 27) 2) 0), (.fld (.sz (.s 27) 2) 1)])]⟩)
(.seq
(.reg ⟨[.call 28 [] 34 false false [(.s 2), (.len (.m 7 1))]], [], [(8, .v (.s 28))]⟩)
(.seq
(.reg ⟨[.call 29 [] 34 false false [(.s 3), (.c (.int .i64 (256)))]], [], [(9, .m [(.fld (.ag [(.one (.s 29)), (.c (.int .i64 (0)))]) 0), (.fld (.ag [(.one (.s 29)), (.c (.int .i64 (0)))]) 1)])]⟩)
(.seq
(.reg ⟨[.call 30 [] 34 false false [(.s 4), (.bin .add (.m 9 0) (.c (.int .i64 (1))))]], [], [(9, .m [(.m 9 0), (.one (.s 30))])]⟩)
(.seq
(.reg ⟨[.call 31 [] 35 false false [(.mm 7 0 2), (.ag [(.c (.int .i64 (1))), (.one (.s 8)), (.c (.int .i64 (0))), (.c (.int .i64 (0))), (.fld (.mm 9 0 2) 0), (.fld (.mm 9 0 2) 1), (.c (.int .u64 (0)))])]], [], [(10, .m [(.fld (.sz (.ext (.s 31) 1) 2) 0), (.fld (.sz (.ext (.s 31) 1) 2) 1)]), (11, .v (.ext (.s 31) 0)), (12, .v (.ext (.s 31) 2))]⟩)
(.seq
(.reg ⟨[], [], [(13, .v (.len (.m 7 0)))]⟩)
(.seq
(.seq
(.reg ⟨[.lt 32 [] (.bin .neq (.s 12) (.c (.int .i64 (0)))), .lt 33 [] (.ite (.s 32) (.c (.bool true)) (.bin .neq (.len (.m 10 0)) (.bin .add (.s 13) (.c (.int .i64 (1)))))), .lt 34 [] (.ite (.s 33) (.c (.bool true)) (.bin .neq (.len (.fld (.idx (.m 10 0) (.s 13) 2) 0)) (.m 9 1))), .lt 35 [] (.ite (.s 34) (.c (.bool true)) (.bin .neq (.len (.fld (.idx (.m 10 0) (.s 13) 2) 1)) (.bin .sub (.m 9 0) (.m 9 1)))), .call 36 [(35, false)] 29 false false [(.mm 10 0 2)], .call 37 [(35, false)] 29 false false [(.mm 7 0 2)]], [([(32, false)], (.bin .neq (.len (.m 10 0)) (.bin .add (.s 13) (.c (.int .i64 (1)))))), ([(33, false)], (.bin .neq (.len (.fld (.idx (.m 10 0) (.s 13) 2) 0)) (.m 9 1))), ([(34, false)], (.bin .neq (.len (.fld (.idx (.m 10 0) (.s 13) 2) 1)) (.bin .sub (.m 9 0) (.m 9 1)))), ([(35, false)], (.bin .neq (.s 36) (.bin .add (.bin .add (.s 37) (.c (.int .i64 (1)))) (.m 9 0))))], [(14, .v (.ite (.s 35) (.c (.bool true)) (.bin .neq (.s 36) (.bin .add (.bin .add (.s 37) (.c (.int .i64 (1)))) (.m 9 0)))))]⟩)
(.cond (.s 14)
 (.seq
 (.reg ⟨[], [], [(5, .v (.c (.bool false)))]⟩)
 .ret)
 .skip))
(.seq
(.seq
(.reg ⟨[], [], [(15, .v (.c (.int .i64 (0))))]⟩)
(.block 0
 (.loop [0, 1, 2, 3, 4, 5, 6, 7, 8, 9, 10, 11, 12, 13, 14, 15]
  (.seq
  (.seq
  (.reg ⟨[], [], [(16, .v (.bin .lss (.s 15) (.len (.m 10 1))))]⟩)
  (.cond (.s 16)
   .skip
   (.exit 0)))
  (.seq
  (.block 1
   (.seq
   (.reg ⟨[], [], [(17, .v (.eqv true (.bin .eql (.fld (.idx (.m 10 1) (.s 15) 1) 0) (.s 13)) (.bin .eql (.s 15) (.s 8))))]⟩)
   (.cond (.s 17)
    (.seq
    (.reg ⟨[], [], [(5, .v (.c (.bool false)))]⟩)
    .ret)
    .skip)))
  (.reg ⟨[], [], [(15, .v (.bin .add (.s 15) (.c (.int .i64 (1)))))]⟩))))))
(.seq
(.seq
(.reg ⟨[], [], [(18, .v (.c (.int .i64 (0))))]⟩)
(.block 2
 (.loop [0, 1, 2, 3, 4, 5, 6, 7, 8, 9, 10, 11, 12, 13, 14, 15, 16, 18]
  (.seq
  (.seq
  (.reg ⟨[], [], [(19, .v (.bin .leq (.s 18) (.s 13)))]⟩)
  (.cond (.s 19)
   .skip
   (.exit 2)))
  (.seq
  (.block 3
   (.seq
   (.reg ⟨[], [], [(20, .v (.c (.int .i64 (0))))]⟩)
   (.block 4
    (.loop [0, 1, 2, 3, 4, 5, 6, 7, 8, 9, 10, 11, 12, 13, 14, 15, 16, 18, 19, 20]
     (.seq
     (.seq
     (.reg ⟨[], [], [(21, .v (.bin .lss (.s 20) (.len (.fld (.idx (.m 10 0) (.s 18) 2) 0))))]⟩)
     (.cond (.s 21)
      .skip
      (.exit 4)))
     (.seq
     (.block 5
      (.seq
      (.reg ⟨[], [], [(22, .v (.bin .eql (.fld (.idx (.fld (.idx (.m 10 0) (.s 18) 2) 0) (.s 20) 1) 0) (.s 13)))]⟩)
      (.cond (.s 22)
       (.seq
       (.reg ⟨[], [], [(5, .v (.c (.bool false)))]⟩)
       .ret)
       .skip)))
     (.reg ⟨[], [], [(20, .v (.bin .add (.s 20) (.c (.int .i64 (1)))))]⟩)))))))
  (.reg ⟨[], [], [(18, .v (.bin .add (.s 18) (.c (.int .i64 (1)))))]⟩))))))
(.seq
(.reg ⟨[.call 38 [] 35 false false [(.mm 7 0 2), (.ag [(.c (.int .i64 (1))), (.one (.s 8)), (.c (.int .i64 (0))), (.c (.int .i64 (0))), (.fld (.ag [(.m 9 0), (.bin .add (.m 9 0) (.c (.int .i64 (1))))]) 0), (.fld (.ag [(.m 9 0), (.bin .add (.m 9 0) (.c (.int .i64 (1))))]) 1), (.c (.int .u64 (0)))])]], [], [(23, .m [(.fld (.sz (.ext (.s 38) 1) 2) 0), (.fld (.sz (.ext (.s 38) 1) 2) 1)]), (24, .v (.ext (.s 38) 0)), (25, .v (.ext (.s 38) 2))]⟩)
(.seq
(.reg ⟨[.lt 39 [] (.s 6)], [([(39, true)], (.bin .eql (.s 25) (.c (.int .i64 (1)))))], [(5, .v (.ite (.s 39) (.bin .eql (.s 25) (.c (.int .i64 (1)))) (.c (.bool false))))]⟩)
.ret))))))))))))),
[(5, .v)]⟩
theorem c12 : compFn Try.prog fresh sig [.fz, .fz, .fz, .fz, .fz] [] Try.f12 = some p12 := by kernel_rfl
end Vm
