/-
  MADE BY A PROGRAM: programs that the compiler makes of functions, and that it makes them.
-/
import Derived.Test.YtbmgnmjghhakhaaGs
namespace Vm
open Go
open Go.Proofs
set_option maxRecDepth 100000
/-- cromlech/cromlechlaw09.CanonTells -/
def p3 : Fn := ⟨36, [0, 1, 2, 3, 4, 5, 6, 10, 12, 13, 14, 15, 39, 16, 17, 19, 18, 20, 105, 21, 114, 113, 115, 23, 112, 24, 25, 26, 27, 144, 147, 146, 148, 29, 145, 157],
(.seq
(.reg ⟨[], [], [(6, .m [(.fld (.sz (.s 0) 2) 0), (.fld (.sz (.s 0) 2) 1)]), (7, .m [(.fld (.sz (.s 4) 5) 0), (.fld (.sz (.s 4) 5) 1), (.fld (.sz (.s 4) 5) 2), (.fld (.sz (.s 4) 5) 3), (.fld (.sz (.s 4) 5) 4)]), (8, .v (.c (.bool false)))]⟩)
(.seq
(.reg ⟨[.call 36 [] 15 false false []], [], [(9, .v (.s 36))]⟩)
(.seq
(.reg ⟨[], [], [(10, .m [(.c (.sl [])), (.c (.sl []))])]⟩)
(.seq
(.seq
(.reg ⟨[], [], [(11, .v (.c (.int .i64 (0))))]⟩)
(.block 0
 (.loop [0, 1, 2, 3, 4, 5, 6, 7, 8, 9, 10, 11]
  (.seq
  (.seq
  (.reg ⟨[.lt 37 [] (.bin .lss (.s 11) (.len (.m 6 0)))], [([(37, true)], (.bin .lss (.s 11) (.c (.int .i64 (6)))))], [(12, .v (.ite (.s 37) (.bin .lss (.s 11) (.c (.int .i64 (6)))) (.c (.bool false))))]⟩)
  (.cond (.s 12)
   .skip
   (.exit 0)))
  (.seq
  (.block 1
   (.reg ⟨[], [], [(10, .m [(.app (.m 10 0) (.lit [(.ag [(.slc (.fld (.idx (.m 6 0) (.s 11) 2) 0) (.c (.int .i64 (0))) (.mn (.len (.fld (.idx (.m 6 0) (.s 11) 2) 0)) (.c (.int .i64 (6)))) 1), (.slc (.fld (.idx (.m 6 0) (.s 11) 2) 1) (.c (.int .i64 (0))) (.mn (.len (.fld (.idx (.m 6 0) (.s 11) 2) 1)) (.c (.int .i64 (6)))) 1)])]) 2), (.m 10 1)])]⟩))
  (.reg ⟨[], [], [(11, .v (.bin .add (.s 11) (.c (.int .i64 (1)))))]⟩))))))
(.seq
(.reg ⟨[], [], [(10, .m [(.m 10 0), (.slc (.m 6 1) (.c (.int .i64 (0))) (.mn (.len (.m 6 1)) (.c (.int .i64 (20)))) 1)])]⟩)
(.seq
(.reg ⟨[.call 38 [] 16 false false [(.s 1), (.s 2)]], [], [(13, .m [(.fld (.sz (.s 38) 2) 0), (.fld (.sz (.s 38) 2) 1)])]⟩)
(.seq
(.reg ⟨[.call 39 [] 17 false false [(.mm 13 0 2), (.s 3), (.bin .eql (.bin .rem (.s 3) (.c (.int .i64 (2)))) (.c (.int .i64 (0))))]], [], [(14, .m [(.fld (.sz (.s 39) 2) 0), (.fld (.sz (.s 39) 2) 1)])]⟩)
(.seq
(.reg ⟨[.call 40 [] 19 false false [(.mm 7 0 5), (.s 5)], .call 41 [] 18 false false [(.mm 14 0 2), (.s 40)]], [], [(15, .m [(.fld (.sz (.ext (.s 41) 1) 2) 0), (.fld (.sz (.ext (.s 41) 1) 2) 1)]), (16, .v (.ext (.s 41) 0)), (17, .v (.ext (.s 41) 2))]⟩)
(.seq
(.seq
(.reg ⟨[], [], [(18, .v (.bin .neq (.s 17) (.c (.int .i64 (0)))))]⟩)
(.cond (.s 18)
 (.reg ⟨[], [], [(15, .m [(.fld (.mm 14 0 2) 0), (.fld (.mm 14 0 2) 1)])]⟩)
 .skip))
(.seq
(.reg ⟨[], [], [(19, .v (.lit [(.mm 10 0 2), (.mm 13 0 2), (.mm 14 0 2), (.mm 15 0 2)]))]⟩)
(.seq
(.seq
(.reg ⟨[], [], [(20, .v (.c (.int .i64 (0)))), (21, .v (.len (.s 19))), (24, .v (.s 19))]⟩)
(.block 2
 (.loop [0, 1, 2, 3, 4, 5, 6, 7, 8, 9, 10, 11, 12, 13, 14, 15, 16, 17, 18, 19, 20, 21, 24]
  (.seq
  (.reg ⟨[], [], [(22, .v (.bin .lss (.s 20) (.s 21)))]⟩)
  (.seq
  (.cond (.s 22)
   .skip
   (.exit 2))
  (.seq
  (.block 3
   (.seq
   (.reg ⟨[], [], [(23, .m [(.fld (.flds (.idx (.s 24) (.s 20) 2) 0 2) 0), (.fld (.flds (.idx (.s 24) (.s 20) 2) 0 2) 1)])]⟩)
   (.seq
   (.reg ⟨[.call 42 [] 20 false false [(.mm 23 0 2)]], [], [(25, .m [(.fld (.sz (.ext (.s 42) 0) 2) 0), (.fld (.sz (.ext (.s 42) 0) 2) 1)]), (26, .v (.ext (.s 42) 1))]⟩)
   (.seq
   (.reg ⟨[.call 43 [] 21 false false [(.mm 23 0 2)]], [], [(27, .m [(.fld (.sz (.ext (.s 43) 0) 2) 0), (.fld (.sz (.ext (.s 43) 0) 2) 1)]), (28, .v (.ext (.s 43) 1))]⟩)
   (.seq
   (.seq
   (.reg ⟨[.call 44 [] 23 false false [(.mm 23 0 2)], .call 45 [] 24 false false [(.mm 23 0 2)], .call 46 [] 22 false false [(.s 44), (.s 45)], .lt 47 [] (.un .not (.s 46)), .lt 48 [] (.ite (.s 47) (.c (.bool true)) (.bin .neq (.s 26) (.s 28))), .call 49 [(48, false)] 25 false false [(.mm 25 0 2), (.mm 27 0 2)]], [([(47, false)], (.bin .neq (.s 26) (.s 28))), ([(48, false)], (.un .not (.s 49)))], [(29, .v (.ite (.s 48) (.c (.bool true)) (.un .not (.s 49))))]⟩)
   (.cond (.s 29)
    (.seq
    (.reg ⟨[], [], [(8, .v (.c (.bool false)))]⟩)
    .ret)
    .skip))
   (.seq
   (.reg ⟨[], [], [(30, .v (.c (.int .i64 (0)))), (31, .v (.len (.s 19))), (34, .v (.s 19))]⟩)
   (.block 4
    (.loop [0, 1, 2, 3, 4, 5, 6, 7, 8, 9, 10, 11, 12, 13, 14, 15, 16, 17, 18, 19, 20, 21, 22, 23, 24, 25, 26, 27, 28, 29, 30, 31, 34]
     (.seq
     (.reg ⟨[], [], [(32, .v (.bin .lss (.s 30) (.s 31)))]⟩)
     (.seq
     (.cond (.s 32)
      .skip
      (.exit 4))
     (.seq
     (.block 5
      (.seq
      (.reg ⟨[], [], [(33, .m [(.fld (.flds (.idx (.s 34) (.s 30) 2) 0 2) 0), (.fld (.flds (.idx (.s 34) (.s 30) 2) 0 2) 1)])]⟩)
      (.seq
      (.reg ⟨[.call 50 [] 26 false false [(.mm 23 0 2), (.mm 33 0 2)], .call 51 [] 27 false false [(.mm 23 0 2), (.mm 33 0 2)]], [], [(35, .v (.eqv true (.s 50) (.s 51)))]⟩)
      (.cond (.s 35)
       (.seq
       (.reg ⟨[], [], [(8, .v (.c (.bool false)))]⟩)
       .ret)
       .skip))))
     (.reg ⟨[], [], [(30, .v (.bin .add (.s 30) (.c (.int .i64 (1)))))]⟩))))))))))))
  (.reg ⟨[], [], [(20, .v (.bin .add (.s 20) (.c (.int .i64 (1)))))]⟩)))))))
(.seq
(.reg ⟨[], [], [(8, .v (.s 9))]⟩)
.ret)))))))))))),
[(8, .v)]⟩
theorem c3 : compFn Try.prog fresh sig [.fz, .fz, .fz, .fz, .fz, .fz] [] Try.f3 = some p3 := by kernel_rfl
end Vm
