import Derived.Test.YtkiimlmlfhmkiaaAvL3
import Derived.Test.YtkiimlmlfhmkiaaProg
import Derived.KernelRfl

set_option maxRecDepth 100000
namespace Go.Proofs.Ytkiimlmlfhmkiaa
open Go.Av
/-- bilander/bilanderref08.Light -/
def ac14 : AC :=
 (.seq
  (.reg [⟨(some 4), none, .mv (.c (.bool false))⟩])
  (.seq
   (.seq
    (.reg [⟨(some 6), none, .mv (.t 0)⟩,
      ⟨(some 7), none, .len false (.t 6)⟩,
      ⟨(some 8), none, .mv (.t 1)⟩,
      ⟨(some 9), none, .bin .gtr (.t 7) (.t 8)⟩])
    (.cond (.t 9)
     (.seq
      (.reg [⟨(some 4), none, .mv (.c (.bool false))⟩])
      .ret)
     .skip))
   (.seq
    (.seq
     (.reg [⟨(some 5), none, .mv (.c (.int .i64 0))⟩])
     (.block 0
      (.loop
       (.seq
        (.seq
         (.reg [⟨(some 10), none, .mv (.t 5)⟩,
           ⟨(some 11), none, .mv (.t 0)⟩,
           ⟨(some 12), none, .len false (.t 11)⟩,
           ⟨(some 13), none, .bin .lss (.t 10) (.t 12)⟩])
         (.cond (.t 13)
          .skip
          (.exit 0)))
        (.seq
         (.block 1
          (.seq
           (.reg [⟨(some 16), none, .mv (.t 0)⟩,
             ⟨(some 17), none, .mv (.t 5)⟩,
             ⟨(some 18), none, .iaddr 9 (.t 16) (.t 17)⟩,
             ⟨(some 19), none, .faddr (.t 18) 3⟩,
             ⟨(some 20), none, .load none (.t 19)⟩,
             ⟨(some 21), none, .len true (.t 20)⟩,
             ⟨(some 22), none, .bin .gtr (.t 21) (.c (.int .i64 100))⟩])
           (.cond (.t 22)
            (.seq
             (.reg [⟨(some 4), none, .mv (.c (.bool false))⟩])
             .ret)
            .skip)))
         (.reg [⟨(some 14), none, .take 5⟩,
           ⟨(some 15), none, .bin .add (.t 14) (.c (.int .i64 1))⟩,
           ⟨(some 5), none, .take 15⟩]))))))
    (.seq
     (.reg [⟨(some 4), none, .mv (.c (.bool true))⟩])
     .ret))))
def ar14 : List AR := [.t 4]
theorem comp14 : Try.f14.body.bind (comp Try.prog 23) = some ac14 := by kernel_rfl
theorem cres14 : compRes Try.prog Try.f14.results.toList = some ar14 := by kernel_rfl
/-- bilander/bilanderref08.Put -/
def ac17 : AC :=
 (.seq
  (.reg [⟨(some 1), none, .box 9 (.t 0)⟩,
    ⟨(some 2), none, .mv (.c .nils)⟩,
    ⟨(some 3), none, .mv (.c (.int .i64 0))⟩])
  (.seq
   (.reg [⟨(some 8), none, .load (some 9) (.t 1)⟩,
     ⟨(some 9), none, .call 53 [(.t 8)]⟩,
     ⟨(some 4), none, .take 9⟩])
   (.seq
    (.seq
     (.reg [⟨(some 10), none, .mv (.t 4)⟩,
       ⟨(some 11), none, .bin .neq (.t 10) (.c (.int .i64 0))⟩])
     (.cond (.t 11)
      (.seq
       (.reg [⟨(some 12), none, .take 4⟩,
         ⟨(some 2), none, .mv (.c .nils)⟩,
         ⟨(some 3), none, .take 12⟩])
       .ret)
      .skip))
    (.seq
     (.reg [⟨(some 13), none, .faddr (.t 1) 0⟩,
       ⟨(some 14), none, .load none (.t 13)⟩,
       ⟨(some 15), none, .bsl 1 1 [(.int .u8 0)] [(0, (.t 14))]⟩,
       ⟨(some 5), none, .take 15⟩])
     (.seq
      (.reg [⟨(some 16), none, .load (some 9) (.t 1)⟩,
        ⟨(some 17), none, .call 54 [(.t 16)]⟩,
        ⟨(some 6), none, .take 17⟩])
      (.seq
       (.seq
        (.reg [⟨(some 7), none, .mv (.c (.int .i64 0))⟩])
        (.block 0
         (.loop
          (.seq
           (.seq
            (.reg [⟨(some 18), none, .mv (.t 7)⟩,
              ⟨(some 19), none, .mv (.t 6)⟩,
              ⟨(some 20), none, .len false (.t 19)⟩,
              ⟨(some 21), none, .bin .lss (.t 18) (.t 20)⟩])
            (.cond (.t 21)
             .skip
             (.exit 0)))
           (.seq
            (.block 1
             (.reg [⟨(some 24), none, .take 5⟩,
               ⟨(some 25), none, .mv (.t 6)⟩,
               ⟨(some 26), none, .mv (.t 7)⟩,
               ⟨(some 27), none, .iaddr 1 (.t 25) (.t 26)⟩,
               ⟨(some 28), none, .load none (.t 27)⟩,
               ⟨(some 29), none, .call 55 [(.t 28)]⟩,
               ⟨(some 30), none, .app 1 1 24 (.t 29)⟩,
               ⟨(some 5), none, .take 30⟩]))
            (.reg [⟨(some 22), none, .take 7⟩,
              ⟨(some 23), none, .bin .add (.t 22) (.c (.int .i64 1))⟩,
              ⟨(some 7), none, .take 23⟩]))))))
       (.seq
        (.seq
         (.reg [⟨(some 31), none, .faddr (.t 1) 0⟩,
           ⟨(some 32), none, .load none (.t 31)⟩,
           ⟨(some 33), none, .bin .eql (.t 32) (.c (.int .u8 0))⟩])
         (.cond (.t 33)
          (.reg [⟨(some 34), none, .take 5⟩,
            ⟨(some 35), none, .faddr (.t 1) 3⟩,
            ⟨(some 36), none, .load none (.t 35)⟩,
            ⟨(some 37), none, .call 56 [(.t 36)]⟩,
            ⟨(some 38), none, .app 1 1 34 (.t 37)⟩,
            ⟨(some 5), none, .take 38⟩])
          .skip))
        (.seq
         (.reg [⟨(some 39), none, .take 5⟩,
           ⟨(some 2), none, .take 39⟩,
           ⟨(some 3), none, .mv (.c (.int .i64 0))⟩])
         .ret))))))))
def ar17 : List AR := [.t 2, .t 3]
theorem comp17 : Try.f17.body.bind (comp Try.prog 40) = some ac17 := by kernel_rfl
theorem cres17 : compRes Try.prog Try.f17.results.toList = some ar17 := by kernel_rfl
/-- bilander/meta.Check -/
def ac18 : AC :=
 (.seq
  (.reg [⟨(some 1), none, .box 9 (.t 0)⟩,
    ⟨(some 2), none, .mv (.c (.int .i64 0))⟩])
  (.seq
   (.block 0
    (.seq
     (.reg [⟨(some 4), none, .faddr (.t 1) 0⟩,
       ⟨(some 5), none, .load none (.t 4)⟩,
       ⟨(some 6), none, .bin .gtr (.t 5) (.c (.int .u8 6))⟩,
       ⟨(some 3), none, .take 6⟩])
     (.cond (.t 3)
      (.seq
       (.reg [⟨(some 2), none, .mv (.c (.int .i64 22))⟩])
       .ret)
      (.seq
       (.reg [⟨(some 8), none, .load (some 9) (.t 1)⟩,
         ⟨(some 9), none, .call 57 [(.t 8)]⟩,
         ⟨(some 7), none, .take 9⟩])
       (.cond (.t 7)
        (.seq
         (.reg [⟨(some 2), none, .mv (.c (.int .i64 4))⟩])
         .ret)
        (.seq
         (.reg [⟨(some 11), none, .faddr (.t 1) 1⟩,
           ⟨(some 12), none, .load none (.t 11)⟩,
           ⟨(some 13), none, .call 58 [(.t 12), (.c (.int .i64 2147483647))]⟩,
           ⟨(some 14), none, .una .not (.t 13)⟩,
           ⟨(some 15), none, .take 14⟩,
           ⟨(some 16), (some (15, false)), .faddr (.t 1) 2⟩,
           ⟨(some 17), (some (15, false)), .load none (.t 16)⟩,
           ⟨(some 18), (some (15, false)), .call 58 [(.t 17), (.c (.int .i64 7))]⟩,
           ⟨(some 19), (some (15, false)), .una .not (.t 18)⟩,
           ⟨(some 20), none, .pick (.t 15) (.c (.bool true)) (.t 19)⟩,
           ⟨(some 21), none, .take 20⟩,
           ⟨(some 22), (some (21, false)), .faddr (.t 1) 6⟩,
           ⟨(some 23), (some (21, false)), .load none (.t 22)⟩,
           ⟨(some 24), (some (21, false)), .call 58 [(.t 23), (.c (.int .i64 63))]⟩,
           ⟨(some 25), (some (21, false)), .una .not (.t 24)⟩,
           ⟨(some 26), none, .pick (.t 21) (.c (.bool true)) (.t 25)⟩,
           ⟨(some 27), none, .take 26⟩,
           ⟨(some 28), (some (27, false)), .faddr (.t 1) 7⟩,
           ⟨(some 29), (some (27, false)), .load none (.t 28)⟩,
           ⟨(some 30), (some (27, false)), .call 58 [(.t 29), (.c (.int .i64 4611686018427387903))]⟩,
           ⟨(some 31), (some (27, false)), .una .not (.t 30)⟩,
           ⟨(some 32), none, .pick (.t 27) (.c (.bool true)) (.t 31)⟩,
           ⟨(some 33), none, .take 32⟩,
           ⟨(some 34), (some (33, false)), .faddr (.t 1) 8⟩,
           ⟨(some 35), (some (33, false)), .load none (.t 34)⟩,
           ⟨(some 36), (some (33, false)), .call 58 [(.t 35), (.c (.int .i64 64))]⟩,
           ⟨(some 37), (some (33, false)), .una .not (.t 36)⟩,
           ⟨(some 38), none, .pick (.t 33) (.c (.bool true)) (.t 37)⟩,
           ⟨(some 10), none, .take 38⟩])
         (.cond (.t 10)
          (.seq
           (.reg [⟨(some 2), none, .mv (.c (.int .i64 11))⟩])
           .ret)
          (.seq
           (.reg [⟨(some 40), none, .faddr (.t 1) 0⟩,
             ⟨(some 41), none, .load none (.t 40)⟩,
             ⟨(some 42), none, .bin .neq (.t 41) (.c (.int .u8 0))⟩,
             ⟨(some 39), none, .take 42⟩])
           (.cond (.t 39)
            (.seq
             (.reg [⟨(some 2), none, .mv (.c (.int .i64 0))⟩])
             .ret)
            (.seq
             (.reg [⟨(some 44), none, .faddr (.t 1) 4⟩,
               ⟨(some 45), none, .load none (.t 44)⟩,
               ⟨(some 46), none, .bin .lss (.t 45) (.c (.int .i64 1))⟩,
               ⟨(some 47), none, .take 46⟩,
               ⟨(some 48), (some (47, false)), .faddr (.t 1) 4⟩,
               ⟨(some 49), (some (47, false)), .load none (.t 48)⟩,
               ⟨(some 50), (some (47, false)), .bin .gtr (.t 49) (.c (.int .i64 8))⟩,
               ⟨(some 51), none, .pick (.t 47) (.c (.bool true)) (.t 50)⟩,
               ⟨(some 43), none, .take 51⟩])
             (.cond (.t 43)
              (.seq
               (.reg [⟨(some 2), none, .mv (.c (.int .i64 11))⟩])
               .ret)
              (.seq
               (.reg [⟨(some 53), none, .faddr (.t 1) 3⟩,
                 ⟨(some 54), none, .load none (.t 53)⟩,
                 ⟨(some 55), none, .call 20 [(.t 54)]⟩,
                 ⟨(some 56), none, .una .not (.t 55)⟩,
                 ⟨(some 52), none, .take 56⟩])
               (.cond (.t 52)
                (.seq
                 (.reg [⟨(some 2), none, .mv (.c (.int .i64 6))⟩])
                 .ret)
                .skip)))))))))))))
   (.seq
    (.reg [⟨(some 2), none, .mv (.c (.int .i64 0))⟩])
    .ret)))
def ar18 : List AR := [.t 2]
theorem comp18 : Try.f18.body.bind (comp Try.prog 57) = some ac18 := by kernel_rfl
theorem cres18 : compRes Try.prog Try.f18.results.toList = some ar18 := by kernel_rfl
/-- bilander/meta.Same -/
def ac19 : AC :=
 (.seq
  (.reg [⟨(some 2), none, .box 9 (.t 0)⟩,
    ⟨(some 3), none, .box 9 (.t 1)⟩,
    ⟨(some 4), none, .mv (.c (.bool false))⟩])
  (.seq
   (.reg [⟨(some 5), none, .load (some 9) (.t 2)⟩,
     ⟨(some 6), none, .load (some 9) (.t 3)⟩,
     ⟨(some 7), none, .eqs [1, 1, 1, 2, 1, 0, 1, 1, 1] false (.t 5) (.t 6)⟩,
     ⟨(some 4), none, .take 7⟩])
   .ret))
def ar19 : List AR := [.t 4]
theorem comp19 : Try.f19.body.bind (comp Try.prog 8) = some ac19 := by kernel_rfl
theorem cres19 : compRes Try.prog Try.f19.results.toList = some ar19 := by kernel_rfl
/-- bilander/meta.Name -/
def ac20 : AC :=
 (.seq
  (.reg [⟨(some 2), none, .mv (.c (.bool false))⟩])
  (.seq
   (.seq
    (.reg [⟨(some 5), none, .mv (.t 0)⟩,
      ⟨(some 6), none, .rng (.t 5)⟩])
    (.block 0
     (.loop
      (.seq
       (.reg [⟨(some 7), none, .nxt 6⟩,
         ⟨(some 8), none, .extS 7 0⟩])
       (.seq
        (.cond (.t 8)
         .skip
         (.exit 0))
        (.block 1
         (.seq
          (.reg [⟨(some 9), none, .ext 7 2⟩,
            ⟨(some 4), none, .take 9⟩])
          (.block 2
           (.seq
            (.seq
             (.reg [⟨(some 11), none, .mv (.t 4)⟩,
               ⟨(some 12), none, .bin .geq (.t 11) (.c (.int .i32 97))⟩,
               ⟨(some 13), none, .take 12⟩,
               ⟨(some 14), (some (13, true)), .mv (.t 4)⟩,
               ⟨(some 15), (some (13, true)), .bin .leq (.t 14) (.c (.int .i32 122))⟩,
               ⟨(some 16), none, .pick (.t 13) (.t 15) (.c (.bool false))⟩,
               ⟨(some 10), none, .take 16⟩])
             (.cond (.t 10)
              .skip
              (.seq
               (.reg [⟨(some 17), none, .mv (.t 4)⟩,
                 ⟨(some 18), none, .bin .geq (.t 17) (.c (.int .i32 65))⟩,
                 ⟨(some 19), none, .take 18⟩,
                 ⟨(some 20), (some (19, true)), .mv (.t 4)⟩,
                 ⟨(some 21), (some (19, true)), .bin .leq (.t 20) (.c (.int .i32 90))⟩,
                 ⟨(some 22), none, .pick (.t 19) (.t 21) (.c (.bool false))⟩,
                 ⟨(some 10), none, .take 22⟩])
               (.cond (.t 10)
                .skip
                (.seq
                 (.reg [⟨(some 23), none, .mv (.t 4)⟩,
                   ⟨(some 24), none, .bin .geq (.t 23) (.c (.int .i32 48))⟩,
                   ⟨(some 25), none, .take 24⟩,
                   ⟨(some 26), (some (25, true)), .mv (.t 4)⟩,
                   ⟨(some 27), (some (25, true)), .bin .leq (.t 26) (.c (.int .i32 57))⟩,
                   ⟨(some 28), none, .pick (.t 25) (.t 27) (.c (.bool false))⟩,
                   ⟨(some 10), none, .take 28⟩])
                 (.cond (.t 10)
                  .skip
                  (.seq
                   (.reg [⟨(some 29), none, .mv (.t 4)⟩,
                     ⟨(some 30), none, .bin .eql (.t 29) (.c (.int .i32 46))⟩,
                     ⟨(some 10), none, .take 30⟩])
                   (.cond (.t 10)
                    .skip
                    (.seq
                     (.reg [⟨(some 31), none, .mv (.t 4)⟩,
                       ⟨(some 32), none, .bin .eql (.t 31) (.c (.int .i32 95))⟩,
                       ⟨(some 10), none, .take 32⟩])
                     (.cond (.t 10)
                      .skip
                      (.reg [⟨(some 33), none, .mv (.t 4)⟩,
                        ⟨(some 34), none, .bin .eql (.t 33) (.c (.int .i32 45))⟩,
                        ⟨(some 10), none, .take 34⟩])))))))))))
            (.cond (.t 10)
             .skip
             (.seq
              (.reg [⟨(some 2), none, .mv (.c (.bool false))⟩])
              .ret)))))))))))
   (.seq
    (.reg [⟨(some 35), none, .mv (.t 0)⟩,
      ⟨(some 36), none, .bin .neq (.t 35) (.c (.str (ByteArray.mk #[])))⟩,
      ⟨(some 37), none, .take 36⟩,
      ⟨(some 38), (some (37, true)), .mv (.t 0)⟩,
      ⟨(some 39), (some (37, true)), .len true (.t 38)⟩,
      ⟨(some 40), (some (37, true)), .bin .leq (.t 39) (.c (.int .i64 32))⟩,
      ⟨(some 41), none, .pick (.t 37) (.t 40) (.c (.bool false))⟩,
      ⟨(some 2), none, .take 41⟩])
    .ret)))
def ar20 : List AR := [.t 2]
theorem comp20 : Try.f20.body.bind (comp Try.prog 42) = some ac20 := by kernel_rfl
theorem cres20 : compRes Try.prog Try.f20.results.toList = some ar20 := by kernel_rfl
/-- bilander/bilanderref08.Name -/
def ac21 : AC :=
 (.seq
  (.reg [⟨(some 2), none, .mv (.c (.bool false))⟩])
  (.seq
   (.seq
    (.reg [⟨(some 5), none, .mv (.t 0)⟩,
      ⟨(some 6), none, .len true (.t 5)⟩,
      ⟨(some 7), none, .bin .lss (.t 6) (.c (.int .i64 1))⟩,
      ⟨(some 8), none, .take 7⟩,
      ⟨(some 9), (some (8, false)), .mv (.t 0)⟩,
      ⟨(some 10), (some (8, false)), .len true (.t 9)⟩,
      ⟨(some 11), (some (8, false)), .bin .gtr (.t 10) (.c (.int .i64 32))⟩,
      ⟨(some 12), none, .pick (.t 8) (.c (.bool true)) (.t 11)⟩])
    (.cond (.t 12)
     (.seq
      (.reg [⟨(some 2), none, .mv (.c (.bool false))⟩])
      .ret)
     .skip))
   (.seq
    (.seq
     (.reg [⟨(some 3), none, .mv (.c (.int .i64 0))⟩])
     (.block 0
      (.loop
       (.seq
        (.seq
         (.reg [⟨(some 13), none, .mv (.t 3)⟩,
           ⟨(some 14), none, .mv (.t 0)⟩,
           ⟨(some 15), none, .len true (.t 14)⟩,
           ⟨(some 16), none, .bin .lss (.t 13) (.t 15)⟩])
         (.cond (.t 16)
          .skip
          (.exit 0)))
        (.seq
         (.block 1
          (.seq
           (.reg [⟨(some 19), none, .mv (.t 0)⟩,
             ⟨(some 20), none, .mv (.t 3)⟩,
             ⟨(some 21), none, .idx (.t 19) (.t 20)⟩,
             ⟨(some 4), none, .take 21⟩])
           (.seq
            (.reg [⟨(some 22), none, .mv (.t 4)⟩,
              ⟨(some 23), none, .bin .geq (.t 22) (.c (.int .u8 97))⟩,
              ⟨(some 24), none, .take 23⟩,
              ⟨(some 25), (some (24, true)), .mv (.t 4)⟩,
              ⟨(some 26), (some (24, true)), .bin .leq (.t 25) (.c (.int .u8 122))⟩,
              ⟨(some 27), none, .pick (.t 24) (.t 26) (.c (.bool false))⟩,
              ⟨(some 28), none, .take 27⟩,
              ⟨(some 29), (some (28, false)), .mv (.t 4)⟩,
              ⟨(some 30), (some (28, false)), .bin .geq (.t 29) (.c (.int .u8 65))⟩,
              ⟨(some 31), (some (28, false)), .take 30⟩,
              ⟨(some 32), (some (31, true)), .mv (.t 4)⟩,
              ⟨(some 33), (some (31, true)), .bin .leq (.t 32) (.c (.int .u8 90))⟩,
              ⟨(some 34), (some (28, false)), .pick (.t 31) (.t 33) (.c (.bool false))⟩,
              ⟨(some 35), none, .pick (.t 28) (.c (.bool true)) (.t 34)⟩,
              ⟨(some 36), none, .take 35⟩,
              ⟨(some 37), (some (36, false)), .mv (.t 4)⟩,
              ⟨(some 38), (some (36, false)), .bin .geq (.t 37) (.c (.int .u8 48))⟩,
              ⟨(some 39), (some (36, false)), .take 38⟩,
              ⟨(some 40), (some (39, true)), .mv (.t 4)⟩,
              ⟨(some 41), (some (39, true)), .bin .leq (.t 40) (.c (.int .u8 57))⟩,
              ⟨(some 42), (some (36, false)), .pick (.t 39) (.t 41) (.c (.bool false))⟩,
              ⟨(some 43), none, .pick (.t 36) (.c (.bool true)) (.t 42)⟩,
              ⟨(some 44), none, .take 43⟩,
              ⟨(some 45), (some (44, false)), .mv (.t 4)⟩,
              ⟨(some 46), (some (44, false)), .bin .eql (.t 45) (.c (.int .u8 46))⟩,
              ⟨(some 47), none, .pick (.t 44) (.c (.bool true)) (.t 46)⟩,
              ⟨(some 48), none, .take 47⟩,
              ⟨(some 49), (some (48, false)), .mv (.t 4)⟩,
              ⟨(some 50), (some (48, false)), .bin .eql (.t 49) (.c (.int .u8 95))⟩,
              ⟨(some 51), none, .pick (.t 48) (.c (.bool true)) (.t 50)⟩,
              ⟨(some 52), none, .take 51⟩,
              ⟨(some 53), (some (52, false)), .mv (.t 4)⟩,
              ⟨(some 54), (some (52, false)), .bin .eql (.t 53) (.c (.int .u8 45))⟩,
              ⟨(some 55), none, .pick (.t 52) (.c (.bool true)) (.t 54)⟩,
              ⟨(some 56), none, .una .not (.t 55)⟩])
            (.cond (.t 56)
             (.seq
              (.reg [⟨(some 2), none, .mv (.c (.bool false))⟩])
              .ret)
             .skip))))
         (.reg [⟨(some 17), none, .take 3⟩,
           ⟨(some 18), none, .bin .add (.t 17) (.c (.int .i64 1))⟩,
           ⟨(some 3), none, .take 18⟩]))))))
    (.seq
     (.reg [⟨(some 2), none, .mv (.c (.bool true))⟩])
     .ret))))
def ar21 : List AR := [.t 2]
theorem comp21 : Try.f21.body.bind (comp Try.prog 57) = some ac21 := by kernel_rfl
theorem cres21 : compRes Try.prog Try.f21.results.toList = some ar21 := by kernel_rfl
/-- bilander/bilanderref08.Get -/
def ac23 : AC :=
 (.seq
  (.reg [⟨(some 2), none, .alloc [(.int .u8 0), (.int .i64 0), (.int .i64 0), (.str (ByteArray.mk #[])), (.int .i64 0), (.bool false), (.int .i64 0), (.int .i64 0), (.int .i64 0)]⟩,
    ⟨(some 3), none, .mv (.c (.int .i64 0))⟩])
  (.seq
   (.reg [⟨(some 7), none, .mv (.t 0)⟩,
     ⟨(some 8), none, .call 66 [(.t 7)]⟩,
     ⟨(some 4), none, .alloc [(.int .u8 0), (.int .i64 0), (.int .i64 0), (.str (ByteArray.mk #[])), (.int .i64 0), (.bool false), (.int .i64 0), (.int .i64 0), (.int .i64 0)]⟩,
     ⟨none, none, .store 9 (.t 4) (.t 8)⟩])
   (.seq
    (.reg [⟨(some 10), none, .load (some 9) (.t 4)⟩,
      ⟨(some 11), none, .call 17 [(.t 10)]⟩,
      ⟨(some 9), none, .take 11⟩,
      ⟨(some 12), none, .ext 9 0⟩,
      ⟨(some 13), none, .ext 9 1⟩,
      ⟨(some 5), none, .take 12⟩,
      ⟨(some 6), none, .take 13⟩])
    (.seq
     (.seq
      (.reg [⟨(some 14), none, .mv (.t 6)⟩,
        ⟨(some 15), none, .bin .neq (.t 14) (.c (.int .i64 0))⟩,
        ⟨(some 16), none, .take 15⟩,
        ⟨(some 17), (some (16, false)), .mv (.t 5)⟩,
        ⟨(some 18), (some (16, false)), .b2s (.t 17)⟩,
        ⟨(some 19), (some (16, false)), .mv (.t 0)⟩,
        ⟨(some 20), (some (16, false)), .b2s (.t 19)⟩,
        ⟨(some 21), (some (16, false)), .bin .neq (.t 18) (.t 20)⟩,
        ⟨(some 22), none, .pick (.t 16) (.c (.bool true)) (.t 21)⟩])
      (.cond (.t 22)
       (.seq
        (.reg [⟨(some 23), none, .build [(.int .u8 0), (.int .i64 0), (.int .i64 0), (.str (ByteArray.mk #[])), (.int .i64 0), (.bool false), (.int .i64 0), (.int .i64 0), (.int .i64 0)] []⟩,
          ⟨none, none, .store 9 (.t 2) (.t 23)⟩,
          ⟨(some 3), none, .mv (.c (.int .i64 4))⟩])
        .ret)
       .skip))
     (.seq
      (.reg [⟨(some 24), none, .load (some 9) (.t 4)⟩,
        ⟨none, none, .store 9 (.t 2) (.t 24)⟩,
        ⟨(some 3), none, .mv (.c (.int .i64 0))⟩])
      .ret)))))
def ar23 : List AR := [.c 2 (some 9), .t 3]
theorem comp23 : Try.f23.body.bind (comp Try.prog 25) = some ac23 := by kernel_rfl
theorem cres23 : compRes Try.prog Try.f23.results.toList = some ar23 := by kernel_rfl
/-- bilander/meta.GetAll -/
def ac24 : AC :=
 (.seq
  (.reg [⟨(some 2), none, .mv (.c (.int .i64 0))⟩,
    ⟨(some 3), none, .mv (.c .nils)⟩,
    ⟨(some 4), none, .mv (.c (.int .i64 0))⟩])
  (.seq
   (.reg [⟨(some 13), none, .mv (.t 0)⟩,
     ⟨(some 14), none, .callN 59 [(.t 13)]⟩,
     ⟨(some 5), none, .take 14⟩])
   (.seq
    (.reg [⟨(some 15), none, .mv (.t 5)⟩,
      ⟨(some 16), none, .callE 62 (.t 15) []⟩,
      ⟨(some 17), none, .mv (.t 5)⟩,
      ⟨(some 18), none, .callE 62 (.t 17) []⟩,
      ⟨(some 6), none, .take 16⟩,
      ⟨(some 7), none, .take 18⟩])
    (.seq
     (.reg [⟨(some 8), none, .mv (.c .nils)⟩])
     (.seq
      (.block 0
       (.loop
        (.seq
         (.seq
          (.reg [⟨(some 19), none, .mv (.t 8)⟩,
            ⟨(some 20), none, .len false (.t 19)⟩,
            ⟨(some 21), none, .mv (.t 7)⟩,
            ⟨(some 22), none, .bin .lss (.t 20) (.t 21)⟩])
          (.cond (.t 22)
           .skip
           (.exit 0)))
         (.block 1
          (.seq
           (.reg [⟨(some 24), none, .mv (.t 5)⟩,
             ⟨(some 25), none, .callE 63 (.t 24) [(.c (.int .i64 8192))]⟩,
             ⟨(some 26), none, .s2b (.t 25)⟩,
             ⟨(some 27), none, .call 22 [(.t 26)]⟩,
             ⟨(some 23), none, .take 27⟩,
             ⟨(some 28), none, .extS 23 0⟩,
             ⟨(some 29), none, .ext 23 1⟩,
             ⟨(some 9), none, .alloc [(.int .u8 0), (.int .i64 0), (.int .i64 0), (.str (ByteArray.mk #[])), (.int .i64 0), (.bool false), (.int .i64 0), (.int .i64 0), (.int .i64 0)]⟩,
             ⟨none, none, .store 9 (.t 9) (.t 28)⟩,
             ⟨(some 10), none, .take 29⟩])
           (.seq
            (.seq
             (.reg [⟨(some 30), none, .mv (.t 5)⟩,
               ⟨(some 31), none, .callE 67 (.t 30) []⟩,
               ⟨(some 32), none, .bin .neq (.t 31) (.c (.int .i64 0))⟩,
               ⟨(some 33), none, .take 32⟩,
               ⟨(some 34), (some (33, false)), .mv (.t 10)⟩,
               ⟨(some 35), (some (33, false)), .bin .neq (.t 34) (.c (.int .i64 0))⟩,
               ⟨(some 36), none, .pick (.t 33) (.c (.bool true)) (.t 35)⟩])
             (.cond (.t 36)
              (.seq
               (.reg [⟨(some 2), none, .mv (.c (.int .i64 0))⟩,
                 ⟨(some 3), none, .mv (.c .nils)⟩,
                 ⟨(some 4), none, .mv (.c (.int .i64 4))⟩])
               .ret)
              .skip))
            (.reg [⟨(some 37), none, .take 8⟩,
              ⟨(some 38), none, .load (some 9) (.t 9)⟩,
              ⟨(some 39), none, .bsl 9 1 [(.int .u8 0), (.int .i64 0), (.int .i64 0), (.str (ByteArray.mk #[])), (.int .i64 0), (.bool false), (.int .i64 0), (.int .i64 0), (.int .i64 0)] [(0, (.t 38))]⟩,
              ⟨(some 40), none, .app 9 80 37 (.t 39)⟩,
              ⟨(some 8), none, .take 40⟩])))))))
      (.seq
       (.seq
        (.reg [⟨(some 42), none, .mv (.t 6)⟩,
          ⟨(some 43), none, .mv (.t 8)⟩,
          ⟨(some 44), none, .call 27 [(.t 42), (.t 43)]⟩,
          ⟨(some 41), none, .take 44⟩,
          ⟨(some 45), none, .ext 41 0⟩,
          ⟨(some 46), none, .ext 41 1⟩,
          ⟨(some 11), none, .take 45⟩,
          ⟨(some 12), none, .take 46⟩])
        (.seq
         (.reg [⟨(some 47), none, .mv (.t 12)⟩,
           ⟨(some 48), none, .bin .neq (.t 47) (.c (.int .i64 0))⟩,
           ⟨(some 49), none, .take 48⟩,
           ⟨(some 50), (some (49, false)), .mv (.t 0)⟩,
           ⟨(some 51), (some (49, false)), .mv (.t 11)⟩,
           ⟨(some 52), (some (49, false)), .call 65 [(.t 50), (.t 51)]⟩,
           ⟨(some 53), (some (49, false)), .una .not (.t 52)⟩,
           ⟨(some 54), none, .pick (.t 49) (.c (.bool true)) (.t 53)⟩])
         (.cond (.t 54)
          (.seq
           (.reg [⟨(some 2), none, .mv (.c (.int .i64 0))⟩,
             ⟨(some 3), none, .mv (.c .nils)⟩,
             ⟨(some 4), none, .mv (.c (.int .i64 4))⟩])
           .ret)
          .skip)))
       (.seq
        (.reg [⟨(some 55), none, .take 6⟩,
          ⟨(some 56), none, .take 8⟩,
          ⟨(some 2), none, .take 55⟩,
          ⟨(some 3), none, .take 56⟩,
          ⟨(some 4), none, .mv (.c (.int .i64 0))⟩])
        .ret)))))))
def ar24 : List AR := [.t 2, .t 3, .t 4]
theorem comp24 : Try.f24.body.bind (comp Try.prog 57) = some ac24 := by kernel_rfl
theorem cres24 : compRes Try.prog Try.f24.results.toList = some ar24 := by kernel_rfl
/-- bilander/bilanderref08.GetAll -/
def ac25 : AC :=
 (.seq
  (.reg [⟨(some 2), none, .mv (.c (.int .i64 0))⟩,
    ⟨(some 3), none, .mv (.c .nils)⟩,
    ⟨(some 4), none, .mv (.c (.int .i64 0))⟩])
  (.seq
   (.seq
    (.reg [⟨(some 15), none, .mv (.t 0)⟩,
      ⟨(some 16), none, .len false (.t 15)⟩,
      ⟨(some 17), none, .bin .gtr (.t 16) (.c (.int .i64 8192))⟩])
    (.cond (.t 17)
     (.seq
      (.reg [⟨(some 2), none, .mv (.c (.int .i64 0))⟩,
        ⟨(some 3), none, .mv (.c .nils)⟩,
        ⟨(some 4), none, .mv (.c (.int .i64 4))⟩])
      .ret)
     .skip))
   (.seq
    (.reg [⟨(some 19), none, .mv (.t 0)⟩,
      ⟨(some 20), none, .build [.nils, (.int .i64 0)] [(0, 1, (.t 19))]⟩,
      ⟨(some 21), none, .call 68 [(.t 20)]⟩,
      ⟨(some 18), none, .take 21⟩,
      ⟨(some 22), none, .extS 18 0⟩,
      ⟨(some 23), none, .ext 18 1⟩,
      ⟨(some 5), none, .alloc [.nils, (.int .i64 0)]⟩,
      ⟨none, none, .store 2 (.t 5) (.t 22)⟩,
      ⟨(some 6), none, .take 23⟩])
    (.seq
     (.reg [⟨(some 25), none, .load (some 2) (.t 5)⟩,
       ⟨(some 26), none, .call 68 [(.t 25)]⟩,
       ⟨(some 24), none, .take 26⟩,
       ⟨(some 27), none, .extS 24 0⟩,
       ⟨(some 28), none, .ext 24 1⟩,
       ⟨none, none, .store 2 (.t 5) (.t 27)⟩,
       ⟨(some 7), none, .take 28⟩])
     (.seq
      (.reg [⟨(some 8), none, .mv (.c .nils)⟩])
      (.seq
       (.reg [⟨(some 9), none, .mv (.c (.str (ByteArray.mk #[])))⟩])
       (.seq
        (.seq
         (.reg [⟨(some 10), none, .mv (.c (.int .i64 0))⟩])
         (.block 0
          (.loop
           (.seq
            (.seq
             (.reg [⟨(some 29), none, .mv (.t 10)⟩,
               ⟨(some 30), none, .mv (.t 7)⟩,
               ⟨(some 31), none, .bin .lss (.t 29) (.t 30)⟩,
               ⟨(some 32), none, .take 31⟩,
               ⟨(some 33), (some (32, true)), .faddr (.t 5) 1⟩,
               ⟨(some 34), (some (32, true)), .load none (.t 33)⟩,
               ⟨(some 35), (some (32, true)), .bin .eql (.t 34) (.c (.int .i64 0))⟩,
               ⟨(some 36), none, .pick (.t 32) (.t 35) (.c (.bool false))⟩])
             (.cond (.t 36)
              .skip
              (.exit 0)))
            (.seq
             (.block 1
              (.seq
               (.reg [⟨(some 40), none, .load (some 2) (.t 5)⟩,
                 ⟨(some 41), none, .call 69 [(.t 40), (.c (.int .i64 8192))]⟩,
                 ⟨(some 39), none, .take 41⟩,
                 ⟨(some 42), none, .extS 39 0⟩,
                 ⟨(some 43), none, .ext 39 1⟩,
                 ⟨none, none, .store 2 (.t 5) (.t 42)⟩,
                 ⟨(some 9), none, .take 43⟩])
               (.seq
                (.reg [⟨(some 45), none, .mv (.t 9)⟩,
                  ⟨(some 46), none, .s2b (.t 45)⟩,
                  ⟨(some 47), none, .call 23 [(.t 46)]⟩,
                  ⟨(some 44), none, .take 47⟩,
                  ⟨(some 48), none, .extS 44 0⟩,
                  ⟨(some 49), none, .ext 44 1⟩,
                  ⟨(some 11), none, .alloc [(.int .u8 0), (.int .i64 0), (.int .i64 0), (.str (ByteArray.mk #[])), (.int .i64 0), (.bool false), (.int .i64 0), (.int .i64 0), (.int .i64 0)]⟩,
                  ⟨none, none, .store 9 (.t 11) (.t 48)⟩,
                  ⟨(some 12), none, .take 49⟩])
                (.reg [⟨(some 50), none, .take 8⟩,
                  ⟨(some 51), none, .load (some 9) (.t 11)⟩,
                  ⟨(some 52), none, .bsl 9 1 [(.int .u8 0), (.int .i64 0), (.int .i64 0), (.str (ByteArray.mk #[])), (.int .i64 0), (.bool false), (.int .i64 0), (.int .i64 0), (.int .i64 0)] [(0, (.t 51))]⟩,
                  ⟨(some 53), none, .app 9 80 50 (.t 52)⟩,
                  ⟨(some 8), none, .take 53⟩]))))
             (.reg [⟨(some 37), none, .take 10⟩,
               ⟨(some 38), none, .bin .add (.t 37) (.c (.int .i64 1))⟩,
               ⟨(some 10), none, .take 38⟩]))))))
        (.seq
         (.reg [⟨(some 55), none, .mv (.t 6)⟩,
           ⟨(some 56), none, .mv (.t 8)⟩,
           ⟨(some 57), none, .call 28 [(.t 55), (.t 56)]⟩,
           ⟨(some 54), none, .take 57⟩,
           ⟨(some 58), none, .ext 54 0⟩,
           ⟨(some 59), none, .ext 54 1⟩,
           ⟨(some 13), none, .take 58⟩,
           ⟨(some 14), none, .take 59⟩])
         (.seq
          (.seq
           (.reg [⟨(some 60), none, .mv (.t 14)⟩,
             ⟨(some 61), none, .bin .neq (.t 60) (.c (.int .i64 0))⟩,
             ⟨(some 62), none, .take 61⟩,
             ⟨(some 63), (some (62, false)), .mv (.t 13)⟩,
             ⟨(some 64), (some (62, false)), .b2s (.t 63)⟩,
             ⟨(some 65), (some (62, false)), .mv (.t 0)⟩,
             ⟨(some 66), (some (62, false)), .b2s (.t 65)⟩,
             ⟨(some 67), (some (62, false)), .bin .neq (.t 64) (.t 66)⟩,
             ⟨(some 68), none, .pick (.t 62) (.c (.bool true)) (.t 67)⟩])
           (.cond (.t 68)
            (.seq
             (.reg [⟨(some 2), none, .mv (.c (.int .i64 0))⟩,
               ⟨(some 3), none, .mv (.c .nils)⟩,
               ⟨(some 4), none, .mv (.c (.int .i64 4))⟩])
             .ret)
            .skip))
          (.seq
           (.reg [⟨(some 69), none, .take 6⟩,
             ⟨(some 70), none, .take 8⟩,
             ⟨(some 2), none, .take 69⟩,
             ⟨(some 3), none, .take 70⟩,
             ⟨(some 4), none, .mv (.c (.int .i64 0))⟩])
           .ret))))))))))
def ar25 : List AR := [.t 2, .t 3, .t 4]
theorem comp25 : Try.f25.body.bind (comp Try.prog 71) = some ac25 := by kernel_rfl
theorem cres25 : compRes Try.prog Try.f25.results.toList = some ar25 := by kernel_rfl
/-- bilander/bilanderref08.SameAll -/
def ac26 : AC :=
 (.seq
  (.reg [⟨(some 4), none, .mv (.c (.bool false))⟩])
  (.seq
   (.seq
    (.reg [⟨(some 6), none, .mv (.t 0)⟩,
      ⟨(some 7), none, .len false (.t 6)⟩,
      ⟨(some 8), none, .mv (.t 1)⟩,
      ⟨(some 9), none, .len false (.t 8)⟩,
      ⟨(some 10), none, .bin .neq (.t 7) (.t 9)⟩])
    (.cond (.t 10)
     (.seq
      (.reg [⟨(some 4), none, .mv (.c (.bool false))⟩])
      .ret)
     .skip))
   (.seq
    (.seq
     (.reg [⟨(some 5), none, .mv (.c (.int .i64 0))⟩])
     (.block 0
      (.loop
       (.seq
        (.seq
         (.reg [⟨(some 11), none, .mv (.t 5)⟩,
           ⟨(some 12), none, .mv (.t 0)⟩,
           ⟨(some 13), none, .len false (.t 12)⟩,
           ⟨(some 14), none, .bin .lss (.t 11) (.t 13)⟩])
         (.cond (.t 14)
          .skip
          (.exit 0)))
        (.seq
         (.block 1
          (.seq
           (.dreg [] [⟨(some 17), none, .mv (.t 0)⟩,
             ⟨(some 18), none, .mv (.t 5)⟩,
             ⟨(some 19), none, .iaddr 9 (.t 17) (.t 18)⟩,
             ⟨(some 20), none, .load (some 9) (.t 19)⟩,
             ⟨(some 21), none, .mv (.t 1)⟩,
             ⟨(some 22), none, .mv (.t 5)⟩,
             ⟨(some 23), none, .iaddr 9 (.t 21) (.t 22)⟩,
             ⟨(some 24), none, .load (some 9) (.t 23)⟩,
             ⟨(some 25), none, .eqs [1, 1, 1, 2, 1, 0, 1, 1, 1] true (.t 20) (.t 24)⟩])
           (.cond (.t 25)
            (.seq
             (.reg [⟨(some 4), none, .mv (.c (.bool false))⟩])
             .ret)
            .skip)))
         (.reg [⟨(some 15), none, .take 5⟩,
           ⟨(some 16), none, .bin .add (.t 15) (.c (.int .i64 1))⟩,
           ⟨(some 5), none, .take 16⟩]))))))
    (.seq
     (.reg [⟨(some 4), none, .mv (.c (.bool true))⟩])
     .ret))))
def ar26 : List AR := [.t 4]
theorem comp26 : Try.f26.body.bind (comp Try.prog 26) = some ac26 := by kernel_rfl
theorem cres26 : compRes Try.prog Try.f26.results.toList = some ar26 := by kernel_rfl
/-- bilander/meta.PutAll -/
def ac27 : AC :=
 (.seq
  (.reg [⟨(some 4), none, .mv (.c .nils)⟩,
    ⟨(some 5), none, .mv (.c (.int .i64 0))⟩])
  (.seq
   (.seq
    (.reg [⟨(some 11), none, .mv (.t 0)⟩,
      ⟨(some 12), none, .call 58 [(.t 11), (.c (.int .i64 1099511627776))]⟩,
      ⟨(some 13), none, .una .not (.t 12)⟩])
    (.cond (.t 13)
     (.seq
      (.reg [⟨(some 4), none, .mv (.c .nils)⟩,
        ⟨(some 5), none, .mv (.c (.int .i64 11))⟩])
      .ret)
     .skip))
   (.seq
    (.reg [⟨(some 14), none, .mv (.t 0)⟩,
      ⟨(some 15), none, .call 50 [(.t 14)]⟩,
      ⟨(some 16), none, .mv (.t 1)⟩,
      ⟨(some 17), none, .len false (.t 16)⟩,
      ⟨(some 18), none, .call 50 [(.t 17)]⟩,
      ⟨(some 19), none, .app 1 1 15 (.t 18)⟩,
      ⟨(some 6), none, .take 19⟩])
    (.seq
     (.seq
      (.reg [⟨(some 20), none, .mv (.t 1)⟩,
        ⟨(some 21), none, .len false (.t 20)⟩,
        ⟨(some 22), none, .mv (.c (.int .i64 0))⟩])
      (.block 0
       (.loop
        (.seq
         (.reg [⟨(some 23), none, .bin .lss (.t 22) (.t 21)⟩])
         (.seq
          (.cond (.t 23)
           .skip
           (.exit 0))
          (.seq
           (.block 1
            (.seq
             (.reg [⟨(some 24), none, .iaddr 9 (.t 20) (.t 22)⟩,
               ⟨(some 25), none, .load (some 9) (.t 24)⟩,
               ⟨(some 8), none, .alloc [(.int .u8 0), (.int .i64 0), (.int .i64 0), (.str (ByteArray.mk #[])), (.int .i64 0), (.bool false), (.int .i64 0), (.int .i64 0), (.int .i64 0)]⟩,
               ⟨none, none, .store 9 (.t 8) (.t 25)⟩])
             (.seq
              (.reg [⟨(some 27), none, .load (some 9) (.t 8)⟩,
                ⟨(some 28), none, .call 16 [(.t 27)]⟩,
                ⟨(some 26), none, .take 28⟩,
                ⟨(some 29), none, .ext 26 0⟩,
                ⟨(some 30), none, .ext 26 1⟩,
                ⟨(some 9), none, .take 29⟩,
                ⟨(some 10), none, .take 30⟩])
              (.seq
               (.seq
                (.reg [⟨(some 31), none, .mv (.t 10)⟩,
                  ⟨(some 32), none, .bin .neq (.t 31) (.c (.int .i64 0))⟩])
                (.cond (.t 32)
                 (.seq
                  (.reg [⟨(some 33), none, .take 10⟩,
                    ⟨(some 4), none, .mv (.c .nils)⟩,
                    ⟨(some 5), none, .take 33⟩])
                  .ret)
                 .skip))
               (.reg [⟨(some 34), none, .take 6⟩,
                 ⟨(some 35), none, .mv (.t 9)⟩,
                 ⟨(some 36), none, .b2s (.t 35)⟩,
                 ⟨(some 37), none, .call 52 [(.t 36)]⟩,
                 ⟨(some 38), none, .app 1 1 34 (.t 37)⟩,
                 ⟨(some 6), none, .take 38⟩])))))
           (.reg [⟨(some 39), none, .bin .add (.t 22) (.c (.int .i64 1))⟩,
             ⟨(some 22), none, .take 39⟩])))))))
     (.seq
      (.seq
       (.reg [⟨(some 40), none, .mv (.t 6)⟩,
         ⟨(some 41), none, .len false (.t 40)⟩,
         ⟨(some 42), none, .bin .gtr (.t 41) (.c (.int .i64 8192))⟩])
       (.cond (.t 42)
        (.seq
         (.reg [⟨(some 4), none, .mv (.c .nils)⟩,
           ⟨(some 5), none, .mv (.c (.int .i64 5))⟩])
         .ret)
        .skip))
      (.seq
       (.reg [⟨(some 43), none, .take 6⟩,
         ⟨(some 4), none, .take 43⟩,
         ⟨(some 5), none, .mv (.c (.int .i64 0))⟩])
       .ret))))))
def ar27 : List AR := [.t 4, .t 5]
theorem comp27 : Try.f27.body.bind (comp Try.prog 44) = some ac27 := by kernel_rfl
theorem cres27 : compRes Try.prog Try.f27.results.toList = some ar27 := by kernel_rfl
/-- bilander/bilanderref08.PutAll -/
def ac28 : AC :=
 (.seq
  (.reg [⟨(some 4), none, .mv (.c .nils)⟩,
    ⟨(some 5), none, .mv (.c (.int .i64 0))⟩])
  (.seq
   (.seq
    (.reg [⟨(some 10), none, .mv (.t 0)⟩,
      ⟨(some 11), none, .bin .lss (.t 10) (.c (.int .i64 0))⟩,
      ⟨(some 12), none, .take 11⟩,
      ⟨(some 13), (some (12, false)), .mv (.t 0)⟩,
      ⟨(some 14), (some (12, false)), .bin .gtr (.t 13) (.c (.int .i64 1099511627776))⟩,
      ⟨(some 15), none, .pick (.t 12) (.c (.bool true)) (.t 14)⟩])
    (.cond (.t 15)
     (.seq
      (.reg [⟨(some 4), none, .mv (.c .nils)⟩,
        ⟨(some 5), none, .mv (.c (.int .i64 11))⟩])
      .ret)
     .skip))
   (.seq
    (.reg [⟨(some 16), none, .mv (.t 0)⟩,
      ⟨(some 17), none, .call 55 [(.t 16)]⟩,
      ⟨(some 18), none, .mv (.t 1)⟩,
      ⟨(some 19), none, .len false (.t 18)⟩,
      ⟨(some 20), none, .call 55 [(.t 19)]⟩,
      ⟨(some 21), none, .app 1 1 17 (.t 20)⟩,
      ⟨(some 6), none, .take 21⟩])
    (.seq
     (.seq
      (.reg [⟨(some 7), none, .mv (.c (.int .i64 0))⟩])
      (.block 0
       (.loop
        (.seq
         (.seq
          (.reg [⟨(some 22), none, .mv (.t 7)⟩,
            ⟨(some 23), none, .mv (.t 1)⟩,
            ⟨(some 24), none, .len false (.t 23)⟩,
            ⟨(some 25), none, .bin .lss (.t 22) (.t 24)⟩])
          (.cond (.t 25)
           .skip
           (.exit 0)))
         (.seq
          (.block 1
           (.seq
            (.reg [⟨(some 29), none, .mv (.t 1)⟩,
              ⟨(some 30), none, .mv (.t 7)⟩,
              ⟨(some 31), none, .iaddr 9 (.t 29) (.t 30)⟩,
              ⟨(some 32), none, .load (some 9) (.t 31)⟩,
              ⟨(some 33), none, .call 17 [(.t 32)]⟩,
              ⟨(some 28), none, .take 33⟩,
              ⟨(some 34), none, .ext 28 0⟩,
              ⟨(some 35), none, .ext 28 1⟩,
              ⟨(some 8), none, .take 34⟩,
              ⟨(some 9), none, .take 35⟩])
            (.seq
             (.seq
              (.reg [⟨(some 36), none, .mv (.t 9)⟩,
                ⟨(some 37), none, .bin .neq (.t 36) (.c (.int .i64 0))⟩])
              (.cond (.t 37)
               (.seq
                (.reg [⟨(some 38), none, .take 9⟩,
                  ⟨(some 4), none, .mv (.c .nils)⟩,
                  ⟨(some 5), none, .take 38⟩])
                .ret)
               .skip))
             (.reg [⟨(some 39), none, .take 6⟩,
               ⟨(some 40), none, .mv (.t 8)⟩,
               ⟨(some 41), none, .b2s (.t 40)⟩,
               ⟨(some 42), none, .call 56 [(.t 41)]⟩,
               ⟨(some 43), none, .app 1 1 39 (.t 42)⟩,
               ⟨(some 6), none, .take 43⟩]))))
          (.reg [⟨(some 26), none, .take 7⟩,
            ⟨(some 27), none, .bin .add (.t 26) (.c (.int .i64 1))⟩,
            ⟨(some 7), none, .take 27⟩]))))))
     (.seq
      (.seq
       (.reg [⟨(some 44), none, .mv (.t 6)⟩,
         ⟨(some 45), none, .len false (.t 44)⟩,
         ⟨(some 46), none, .bin .gtr (.t 45) (.c (.int .i64 8192))⟩])
       (.cond (.t 46)
        (.seq
         (.reg [⟨(some 4), none, .mv (.c .nils)⟩,
           ⟨(some 5), none, .mv (.c (.int .i64 5))⟩])
         .ret)
        .skip))
      (.seq
       (.reg [⟨(some 47), none, .take 6⟩,
         ⟨(some 4), none, .take 47⟩,
         ⟨(some 5), none, .mv (.c (.int .i64 0))⟩])
       .ret))))))
def ar28 : List AR := [.t 4, .t 5]
theorem comp28 : Try.f28.body.bind (comp Try.prog 48) = some ac28 := by kernel_rfl
theorem cres28 : compRes Try.prog Try.f28.results.toList = some ar28 := by kernel_rfl
/-- bilander/meta.of -/
def ac51 : AC :=
 (.seq
  (.reg [⟨(some 2), none, .alloc [(.bool false), (.bool false), (.bool false), (.bool false), (.bool false)]⟩])
  (.seq
   (.seq
    (.reg [⟨(some 3), none, .mv (.t 0)⟩])
    (.block 0
     (.seq
      (.reg [⟨(some 5), none, .bin .eql (.t 3) (.c (.int .u8 0))⟩,
        ⟨(some 4), none, .take 5⟩])
      (.cond (.t 4)
       (.seq
        (.reg [⟨(some 6), none, .build [(.bool false), (.bool false), (.bool false), (.bool false), (.bool false)] [(0, 1, (.c (.bool true)))]⟩,
          ⟨none, none, .store 5 (.t 2) (.t 6)⟩])
        .ret)
       (.seq
        (.reg [⟨(some 8), none, .bin .eql (.t 3) (.c (.int .u8 2))⟩,
          ⟨(some 7), none, .take 8⟩])
        (.cond (.t 7)
         (.seq
          (.reg [⟨(some 9), none, .build [(.bool false), (.bool false), (.bool false), (.bool false), (.bool false)] [(1, 1, (.c (.bool true))), (3, 1, (.c (.bool true))), (4, 1, (.c (.bool true)))]⟩,
            ⟨none, none, .store 5 (.t 2) (.t 9)⟩])
          .ret)
         (.seq
          (.reg [⟨(some 11), none, .bin .eql (.t 3) (.c (.int .u8 3))⟩,
            ⟨(some 10), none, .take 11⟩])
          (.cond (.t 10)
           (.seq
            (.reg [⟨(some 12), none, .build [(.bool false), (.bool false), (.bool false), (.bool false), (.bool false)] [(1, 1, (.c (.bool true))), (3, 1, (.c (.bool true)))]⟩,
              ⟨none, none, .store 5 (.t 2) (.t 12)⟩])
            .ret)
           (.seq
            (.reg [⟨(some 14), none, .bin .eql (.t 3) (.c (.int .u8 4))⟩,
              ⟨(some 13), none, .take 14⟩])
            (.cond (.t 13)
             (.seq
              (.reg [⟨(some 15), none, .build [(.bool false), (.bool false), (.bool false), (.bool false), (.bool false)] [(1, 1, (.c (.bool true))), (2, 1, (.c (.bool true))), (3, 1, (.c (.bool true))), (4, 1, (.c (.bool true)))]⟩,
                ⟨none, none, .store 5 (.t 2) (.t 15)⟩])
              .ret)
             (.seq
              (.reg [⟨(some 17), none, .bin .eql (.t 3) (.c (.int .u8 5))⟩,
                ⟨(some 16), none, .take 17⟩])
              (.cond (.t 16)
               (.seq
                (.reg [⟨(some 18), none, .build [(.bool false), (.bool false), (.bool false), (.bool false), (.bool false)] [(1, 1, (.c (.bool true))), (4, 1, (.c (.bool true)))]⟩,
                  ⟨none, none, .store 5 (.t 2) (.t 18)⟩])
                .ret)
               .skip))))))))))))
   (.seq
    (.reg [⟨(some 19), none, .build [(.bool false), (.bool false), (.bool false), (.bool false), (.bool false)] []⟩,
      ⟨none, none, .store 5 (.t 2) (.t 19)⟩])
    .ret)))
def ar51 : List AR := [.c 2 (some 5)]
theorem comp51 : Try.f51.body.bind (comp Try.prog 20) = some ac51 := by kernel_rfl
theorem cres51 : compRes Try.prog Try.f51.results.toList = some ar51 := by kernel_rfl
/-- bilander/bilanderref08.Check -/
def ac53 : AC :=
 (.seq
  (.reg [⟨(some 1), none, .box 9 (.t 0)⟩,
    ⟨(some 2), none, .mv (.c (.int .i64 0))⟩])
  (.seq
   (.block 0
    (.seq
     (.reg [⟨(some 4), none, .faddr (.t 1) 0⟩,
       ⟨(some 5), none, .load none (.t 4)⟩,
       ⟨(some 6), none, .bin .gtr (.t 5) (.c (.int .u8 6))⟩,
       ⟨(some 3), none, .take 6⟩])
     (.cond (.t 3)
      (.seq
       (.reg [⟨(some 2), none, .mv (.c (.int .i64 22))⟩])
       .ret)
      (.seq
       (.dreg [] [⟨(some 8), none, .load (some 9) (.t 1)⟩,
         ⟨(some 9), none, .load (some 9) (.t 1)⟩,
         ⟨(some 10), none, .call 88 [(.t 9)]⟩,
         ⟨(some 11), none, .eqs [1, 1, 1, 2, 1, 0, 1, 1, 1] true (.t 8) (.t 10)⟩,
         ⟨(some 7), none, .take 11⟩])
       (.cond (.t 7)
        (.seq
         (.reg [⟨(some 2), none, .mv (.c (.int .i64 4))⟩])
         .ret)
        (.seq
         (.reg [⟨(some 13), none, .faddr (.t 1) 1⟩,
           ⟨(some 14), none, .load none (.t 13)⟩,
           ⟨(some 15), none, .bin .lss (.t 14) (.c (.int .i64 0))⟩,
           ⟨(some 16), none, .take 15⟩,
           ⟨(some 17), (some (16, false)), .faddr (.t 1) 1⟩,
           ⟨(some 18), (some (16, false)), .load none (.t 17)⟩,
           ⟨(some 19), (some (16, false)), .bin .gtr (.t 18) (.c (.int .i64 2147483647))⟩,
           ⟨(some 20), none, .pick (.t 16) (.c (.bool true)) (.t 19)⟩,
           ⟨(some 21), none, .take 20⟩,
           ⟨(some 22), (some (21, false)), .faddr (.t 1) 2⟩,
           ⟨(some 23), (some (21, false)), .load none (.t 22)⟩,
           ⟨(some 24), (some (21, false)), .bin .lss (.t 23) (.c (.int .i64 0))⟩,
           ⟨(some 25), none, .pick (.t 21) (.c (.bool true)) (.t 24)⟩,
           ⟨(some 26), none, .take 25⟩,
           ⟨(some 27), (some (26, false)), .faddr (.t 1) 2⟩,
           ⟨(some 28), (some (26, false)), .load none (.t 27)⟩,
           ⟨(some 29), (some (26, false)), .bin .gtr (.t 28) (.c (.int .i64 7))⟩,
           ⟨(some 30), none, .pick (.t 26) (.c (.bool true)) (.t 29)⟩,
           ⟨(some 31), none, .take 30⟩,
           ⟨(some 32), (some (31, false)), .faddr (.t 1) 6⟩,
           ⟨(some 33), (some (31, false)), .load none (.t 32)⟩,
           ⟨(some 34), (some (31, false)), .bin .lss (.t 33) (.c (.int .i64 0))⟩,
           ⟨(some 35), none, .pick (.t 31) (.c (.bool true)) (.t 34)⟩,
           ⟨(some 36), none, .take 35⟩,
           ⟨(some 37), (some (36, false)), .faddr (.t 1) 6⟩,
           ⟨(some 38), (some (36, false)), .load none (.t 37)⟩,
           ⟨(some 39), (some (36, false)), .bin .gtr (.t 38) (.c (.int .i64 63))⟩,
           ⟨(some 40), none, .pick (.t 36) (.c (.bool true)) (.t 39)⟩,
           ⟨(some 12), none, .take 40⟩])
         (.cond (.t 12)
          (.seq
           (.reg [⟨(some 2), none, .mv (.c (.int .i64 11))⟩])
           .ret)
          (.seq
           (.reg [⟨(some 42), none, .faddr (.t 1) 7⟩,
             ⟨(some 43), none, .load none (.t 42)⟩,
             ⟨(some 44), none, .bin .lss (.t 43) (.c (.int .i64 0))⟩,
             ⟨(some 45), none, .take 44⟩,
             ⟨(some 46), (some (45, false)), .faddr (.t 1) 7⟩,
             ⟨(some 47), (some (45, false)), .load none (.t 46)⟩,
             ⟨(some 48), (some (45, false)), .bin .gtr (.t 47) (.c (.int .i64 4611686018427387903))⟩,
             ⟨(some 49), none, .pick (.t 45) (.c (.bool true)) (.t 48)⟩,
             ⟨(some 50), none, .take 49⟩,
             ⟨(some 51), (some (50, false)), .faddr (.t 1) 8⟩,
             ⟨(some 52), (some (50, false)), .load none (.t 51)⟩,
             ⟨(some 53), (some (50, false)), .bin .lss (.t 52) (.c (.int .i64 0))⟩,
             ⟨(some 54), none, .pick (.t 50) (.c (.bool true)) (.t 53)⟩,
             ⟨(some 55), none, .take 54⟩,
             ⟨(some 56), (some (55, false)), .faddr (.t 1) 8⟩,
             ⟨(some 57), (some (55, false)), .load none (.t 56)⟩,
             ⟨(some 58), (some (55, false)), .bin .gtr (.t 57) (.c (.int .i64 64))⟩,
             ⟨(some 59), none, .pick (.t 55) (.c (.bool true)) (.t 58)⟩,
             ⟨(some 41), none, .take 59⟩])
           (.cond (.t 41)
            (.seq
             (.reg [⟨(some 2), none, .mv (.c (.int .i64 11))⟩])
             .ret)
            (.seq
             (.reg [⟨(some 61), none, .faddr (.t 1) 0⟩,
               ⟨(some 62), none, .load none (.t 61)⟩,
               ⟨(some 63), none, .bin .eql (.t 62) (.c (.int .u8 0))⟩,
               ⟨(some 64), none, .take 63⟩,
               ⟨(some 65), (some (64, true)), .faddr (.t 1) 4⟩,
               ⟨(some 66), (some (64, true)), .load none (.t 65)⟩,
               ⟨(some 67), (some (64, true)), .bin .lss (.t 66) (.c (.int .i64 1))⟩,
               ⟨(some 68), (some (64, true)), .take 67⟩,
               ⟨(some 69), (some (68, false)), .faddr (.t 1) 4⟩,
               ⟨(some 70), (some (68, false)), .load none (.t 69)⟩,
               ⟨(some 71), (some (68, false)), .bin .gtr (.t 70) (.c (.int .i64 8))⟩,
               ⟨(some 72), (some (64, true)), .pick (.t 68) (.c (.bool true)) (.t 71)⟩,
               ⟨(some 73), none, .pick (.t 64) (.t 72) (.c (.bool false))⟩,
               ⟨(some 60), none, .take 73⟩])
             (.cond (.t 60)
              (.seq
               (.reg [⟨(some 2), none, .mv (.c (.int .i64 11))⟩])
               .ret)
              (.seq
               (.reg [⟨(some 75), none, .faddr (.t 1) 0⟩,
                 ⟨(some 76), none, .load none (.t 75)⟩,
                 ⟨(some 77), none, .bin .eql (.t 76) (.c (.int .u8 0))⟩,
                 ⟨(some 78), none, .take 77⟩,
                 ⟨(some 79), (some (78, true)), .faddr (.t 1) 3⟩,
                 ⟨(some 80), (some (78, true)), .load none (.t 79)⟩,
                 ⟨(some 81), (some (78, true)), .call 21 [(.t 80)]⟩,
                 ⟨(some 82), (some (78, true)), .una .not (.t 81)⟩,
                 ⟨(some 83), none, .pick (.t 78) (.t 82) (.c (.bool false))⟩,
                 ⟨(some 74), none, .take 83⟩])
               (.cond (.t 74)
                (.seq
                 (.reg [⟨(some 2), none, .mv (.c (.int .i64 6))⟩])
                 .ret)
                .skip)))))))))))))
   (.seq
    (.reg [⟨(some 2), none, .mv (.c (.int .i64 0))⟩])
    .ret)))
def ar53 : List AR := [.t 2]
theorem comp53 : Try.f53.body.bind (comp Try.prog 84) = some ac53 := by kernel_rfl
theorem cres53 : compRes Try.prog Try.f53.results.toList = some ar53 := by kernel_rfl
/-- bilander/bilanderref08.numbers -/
def ac54 : AC :=
 (.seq
  (.reg [⟨(some 1), none, .box 9 (.t 0)⟩,
    ⟨(some 2), none, .mv (.c .nils)⟩])
  (.seq
   (.reg [⟨(some 3), none, .mv (.c (.int .i64 0))⟩])
   (.seq
    (.seq
     (.reg [⟨(some 4), none, .faddr (.t 1) 5⟩,
       ⟨(some 5), none, .load none (.t 4)⟩])
     (.cond (.t 5)
      (.reg [⟨(some 3), none, .mv (.c (.int .i64 1))⟩])
      .skip))
    (.seq
     (.seq
      (.reg [⟨(some 6), none, .faddr (.t 1) 0⟩,
        ⟨(some 7), none, .load none (.t 6)⟩])
      (.block 0
       (.seq
        (.reg [⟨(some 9), none, .bin .eql (.t 7) (.c (.int .u8 0))⟩,
          ⟨(some 8), none, .take 9⟩])
        (.cond (.t 8)
         (.seq
          (.reg [⟨(some 10), none, .faddr (.t 1) 1⟩,
            ⟨(some 11), none, .load none (.t 10)⟩,
            ⟨(some 12), none, .faddr (.t 1) 4⟩,
            ⟨(some 13), none, .load none (.t 12)⟩,
            ⟨(some 14), none, .mv (.t 3)⟩,
            ⟨(some 15), none, .bsl 1 3 [(.int .i64 0)] [(0, (.t 11)), (1, (.t 13)), (2, (.t 14))]⟩,
            ⟨(some 2), none, .take 15⟩])
          .ret)
         (.seq
          (.seq
           (.reg [⟨(some 17), none, .bin .eql (.t 7) (.c (.int .u8 1))⟩,
             ⟨(some 16), none, .take 17⟩])
           (.cond (.t 16)
            .skip
            (.reg [⟨(some 18), none, .bin .eql (.t 7) (.c (.int .u8 6))⟩,
              ⟨(some 16), none, .take 18⟩])))
          (.cond (.t 16)
           (.seq
            (.reg [⟨(some 19), none, .faddr (.t 1) 1⟩,
              ⟨(some 20), none, .load none (.t 19)⟩,
              ⟨(some 21), none, .bsl 1 1 [(.int .i64 0)] [(0, (.t 20))]⟩,
              ⟨(some 2), none, .take 21⟩])
            .ret)
           (.seq
            (.reg [⟨(some 23), none, .bin .eql (.t 7) (.c (.int .u8 2))⟩,
              ⟨(some 22), none, .take 23⟩])
            (.cond (.t 22)
             (.seq
              (.reg [⟨(some 24), none, .faddr (.t 1) 1⟩,
                ⟨(some 25), none, .load none (.t 24)⟩,
                ⟨(some 26), none, .faddr (.t 1) 2⟩,
                ⟨(some 27), none, .load none (.t 26)⟩,
                ⟨(some 28), none, .faddr (.t 1) 6⟩,
                ⟨(some 29), none, .load none (.t 28)⟩,
                ⟨(some 30), none, .faddr (.t 1) 7⟩,
                ⟨(some 31), none, .load none (.t 30)⟩,
                ⟨(some 32), none, .bsl 1 4 [(.int .i64 0)] [(0, (.t 25)), (1, (.t 27)), (2, (.t 29)), (3, (.t 31))]⟩,
                ⟨(some 2), none, .take 32⟩])
              .ret)
             (.seq
              (.reg [⟨(some 34), none, .bin .eql (.t 7) (.c (.int .u8 3))⟩,
                ⟨(some 33), none, .take 34⟩])
              (.cond (.t 33)
               (.seq
                (.reg [⟨(some 35), none, .faddr (.t 1) 1⟩,
                  ⟨(some 36), none, .load none (.t 35)⟩,
                  ⟨(some 37), none, .faddr (.t 1) 2⟩,
                  ⟨(some 38), none, .load none (.t 37)⟩,
                  ⟨(some 39), none, .faddr (.t 1) 6⟩,
                  ⟨(some 40), none, .load none (.t 39)⟩,
                  ⟨(some 41), none, .bsl 1 3 [(.int .i64 0)] [(0, (.t 36)), (1, (.t 38)), (2, (.t 40))]⟩,
                  ⟨(some 2), none, .take 41⟩])
                .ret)
               (.seq
                (.reg [⟨(some 43), none, .bin .eql (.t 7) (.c (.int .u8 4))⟩,
                  ⟨(some 42), none, .take 43⟩])
                (.cond (.t 42)
                 (.seq
                  (.reg [⟨(some 44), none, .faddr (.t 1) 1⟩,
                    ⟨(some 45), none, .load none (.t 44)⟩,
                    ⟨(some 46), none, .faddr (.t 1) 2⟩,
                    ⟨(some 47), none, .load none (.t 46)⟩,
                    ⟨(some 48), none, .faddr (.t 1) 8⟩,
                    ⟨(some 49), none, .load none (.t 48)⟩,
                    ⟨(some 50), none, .faddr (.t 1) 6⟩,
                    ⟨(some 51), none, .load none (.t 50)⟩,
                    ⟨(some 52), none, .faddr (.t 1) 7⟩,
                    ⟨(some 53), none, .load none (.t 52)⟩,
                    ⟨(some 54), none, .bsl 1 5 [(.int .i64 0)] [(0, (.t 45)), (1, (.t 47)), (2, (.t 49)), (3, (.t 51)), (4, (.t 53))]⟩,
                    ⟨(some 2), none, .take 54⟩])
                  .ret)
                 .skip))))))))))))
     (.seq
      (.reg [⟨(some 55), none, .faddr (.t 1) 1⟩,
        ⟨(some 56), none, .load none (.t 55)⟩,
        ⟨(some 57), none, .faddr (.t 1) 2⟩,
        ⟨(some 58), none, .load none (.t 57)⟩,
        ⟨(some 59), none, .faddr (.t 1) 7⟩,
        ⟨(some 60), none, .load none (.t 59)⟩,
        ⟨(some 61), none, .bsl 1 3 [(.int .i64 0)] [(0, (.t 56)), (1, (.t 58)), (2, (.t 60))]⟩,
        ⟨(some 2), none, .take 61⟩])
      .ret)))))
def ar54 : List AR := [.t 2]
theorem comp54 : Try.f54.body.bind (comp Try.prog 62) = some ac54 := by kernel_rfl
theorem cres54 : compRes Try.prog Try.f54.results.toList = some ar54 := by kernel_rfl
/-- bilander/meta.strange -/
def ac57 : AC :=
 (.seq
  (.reg [⟨(some 1), none, .box 9 (.t 0)⟩,
    ⟨(some 2), none, .mv (.c (.bool false))⟩])
  (.seq
   (.reg [⟨(some 4), none, .faddr (.t 1) 0⟩,
     ⟨(some 5), none, .load none (.t 4)⟩,
     ⟨(some 6), none, .call 51 [(.t 5)]⟩,
     ⟨(some 3), none, .alloc [(.bool false), (.bool false), (.bool false), (.bool false), (.bool false)]⟩,
     ⟨none, none, .store 5 (.t 3) (.t 6)⟩])
   (.seq
    (.reg [⟨(some 7), none, .faddr (.t 3) 0⟩,
      ⟨(some 8), none, .load none (.t 7)⟩,
      ⟨(some 9), none, .una .not (.t 8)⟩,
      ⟨(some 10), none, .take 9⟩,
      ⟨(some 11), (some (10, true)), .faddr (.t 1) 3⟩,
      ⟨(some 12), (some (10, true)), .load none (.t 11)⟩,
      ⟨(some 13), (some (10, true)), .bin .neq (.t 12) (.c (.str (ByteArray.mk #[])))⟩,
      ⟨(some 14), (some (10, true)), .take 13⟩,
      ⟨(some 15), (some (14, false)), .faddr (.t 1) 4⟩,
      ⟨(some 16), (some (14, false)), .load none (.t 15)⟩,
      ⟨(some 17), (some (14, false)), .bin .neq (.t 16) (.c (.int .i64 0))⟩,
      ⟨(some 18), (some (10, true)), .pick (.t 14) (.c (.bool true)) (.t 17)⟩,
      ⟨(some 19), (some (10, true)), .take 18⟩,
      ⟨(some 20), (some (19, false)), .faddr (.t 1) 5⟩,
      ⟨(some 21), (some (19, false)), .load none (.t 20)⟩,
      ⟨(some 22), (some (10, true)), .pick (.t 19) (.c (.bool true)) (.t 21)⟩,
      ⟨(some 23), none, .pick (.t 10) (.t 22) (.c (.bool false))⟩,
      ⟨(some 24), none, .take 23⟩,
      ⟨(some 25), (some (24, false)), .faddr (.t 3) 1⟩,
      ⟨(some 26), (some (24, false)), .load none (.t 25)⟩,
      ⟨(some 27), (some (24, false)), .una .not (.t 26)⟩,
      ⟨(some 28), (some (24, false)), .take 27⟩,
      ⟨(some 29), (some (28, true)), .faddr (.t 1) 2⟩,
      ⟨(some 30), (some (28, true)), .load none (.t 29)⟩,
      ⟨(some 31), (some (28, true)), .bin .neq (.t 30) (.c (.int .i64 0))⟩,
      ⟨(some 32), (some (24, false)), .pick (.t 28) (.t 31) (.c (.bool false))⟩,
      ⟨(some 33), none, .pick (.t 24) (.c (.bool true)) (.t 32)⟩,
      ⟨(some 34), none, .take 33⟩,
      ⟨(some 35), (some (34, false)), .faddr (.t 3) 2⟩,
      ⟨(some 36), (some (34, false)), .load none (.t 35)⟩,
      ⟨(some 37), (some (34, false)), .una .not (.t 36)⟩,
      ⟨(some 38), (some (34, false)), .take 37⟩,
      ⟨(some 39), (some (38, true)), .faddr (.t 1) 8⟩,
      ⟨(some 40), (some (38, true)), .load none (.t 39)⟩,
      ⟨(some 41), (some (38, true)), .bin .neq (.t 40) (.c (.int .i64 0))⟩,
      ⟨(some 42), (some (34, false)), .pick (.t 38) (.t 41) (.c (.bool false))⟩,
      ⟨(some 43), none, .pick (.t 34) (.c (.bool true)) (.t 42)⟩,
      ⟨(some 44), none, .take 43⟩,
      ⟨(some 45), (some (44, false)), .faddr (.t 3) 3⟩,
      ⟨(some 46), (some (44, false)), .load none (.t 45)⟩,
      ⟨(some 47), (some (44, false)), .una .not (.t 46)⟩,
      ⟨(some 48), (some (44, false)), .take 47⟩,
      ⟨(some 49), (some (48, true)), .faddr (.t 1) 6⟩,
      ⟨(some 50), (some (48, true)), .load none (.t 49)⟩,
      ⟨(some 51), (some (48, true)), .bin .neq (.t 50) (.c (.int .i64 0))⟩,
      ⟨(some 52), (some (44, false)), .pick (.t 48) (.t 51) (.c (.bool false))⟩,
      ⟨(some 53), none, .pick (.t 44) (.c (.bool true)) (.t 52)⟩,
      ⟨(some 54), none, .take 53⟩,
      ⟨(some 55), (some (54, false)), .faddr (.t 3) 4⟩,
      ⟨(some 56), (some (54, false)), .load none (.t 55)⟩,
      ⟨(some 57), (some (54, false)), .una .not (.t 56)⟩,
      ⟨(some 58), (some (54, false)), .take 57⟩,
      ⟨(some 59), (some (58, true)), .faddr (.t 1) 7⟩,
      ⟨(some 60), (some (58, true)), .load none (.t 59)⟩,
      ⟨(some 61), (some (58, true)), .bin .neq (.t 60) (.c (.int .i64 0))⟩,
      ⟨(some 62), (some (54, false)), .pick (.t 58) (.t 61) (.c (.bool false))⟩,
      ⟨(some 63), none, .pick (.t 54) (.c (.bool true)) (.t 62)⟩,
      ⟨(some 2), none, .take 63⟩])
    .ret)))
def ar57 : List AR := [.t 2]
theorem comp57 : Try.f57.body.bind (comp Try.prog 64) = some ac57 := by kernel_rfl
theorem cres57 : compRes Try.prog Try.f57.results.toList = some ar57 := by kernel_rfl
/-- bilander/meta.within -/
def ac58 : AC :=
 (.seq
  (.reg [⟨(some 4), none, .mv (.c (.bool false))⟩])
  (.seq
   (.reg [⟨(some 5), none, .mv (.t 0)⟩,
     ⟨(some 6), none, .bin .geq (.t 5) (.c (.int .i64 0))⟩,
     ⟨(some 7), none, .take 6⟩,
     ⟨(some 8), (some (7, true)), .mv (.t 0)⟩,
     ⟨(some 9), (some (7, true)), .mv (.t 1)⟩,
     ⟨(some 10), (some (7, true)), .bin .leq (.t 8) (.t 9)⟩,
     ⟨(some 11), none, .pick (.t 7) (.t 10) (.c (.bool false))⟩,
     ⟨(some 4), none, .take 11⟩])
   .ret))
def ar58 : List AR := [.t 4]
theorem comp58 : Try.f58.body.bind (comp Try.prog 12) = some ac58 := by kernel_rfl
theorem cres58 : compRes Try.prog Try.f58.results.toList = some ar58 := by kernel_rfl
/-- bilander/bilanderref08.read -/
def ac66 : AC :=
 (.seq
  (.reg [⟨(some 2), none, .alloc [(.int .u8 0), (.int .i64 0), (.int .i64 0), (.str (ByteArray.mk #[])), (.int .i64 0), (.bool false), (.int .i64 0), (.int .i64 0), (.int .i64 0)]⟩])
  (.seq
   (.reg [⟨(some 8), none, .mv (.t 0)⟩,
     ⟨(some 9), none, .build [.nils, (.int .i64 0)] [(0, 1, (.t 8))]⟩,
     ⟨(some 10), none, .call 96 [(.t 9), (.c (.int .i64 1))]⟩,
     ⟨(some 7), none, .take 10⟩,
     ⟨(some 11), none, .extS 7 0⟩,
     ⟨(some 12), none, .ext 7 1⟩,
     ⟨(some 3), none, .alloc [.nils, (.int .i64 0)]⟩,
     ⟨none, none, .store 2 (.t 3) (.t 11)⟩,
     ⟨(some 4), none, .take 12⟩])
   (.seq
    (.reg [⟨(some 13), none, .mv (.t 4)⟩,
      ⟨(some 14), none, .conv .u8 (.t 13)⟩,
      ⟨(some 15), none, .build [(.int .u8 0), (.int .i64 0), (.int .i64 0), (.str (ByteArray.mk #[])), (.int .i64 0), (.bool false), (.int .i64 0), (.int .i64 0), (.int .i64 0)] [(0, 1, (.t 14))]⟩,
      ⟨(some 5), none, .alloc [(.int .u8 0), (.int .i64 0), (.int .i64 0), (.str (ByteArray.mk #[])), (.int .i64 0), (.bool false), (.int .i64 0), (.int .i64 0), (.int .i64 0)]⟩,
      ⟨none, none, .store 9 (.t 5) (.t 15)⟩])
    (.seq
     (.reg [⟨(some 17), none, .load (some 2) (.t 3)⟩,
       ⟨(some 18), none, .call 68 [(.t 17)]⟩,
       ⟨(some 16), none, .take 18⟩,
       ⟨(some 19), none, .extS 16 0⟩,
       ⟨(some 20), none, .extS 16 1⟩,
       ⟨none, none, .store 2 (.t 3) (.t 19)⟩,
       ⟨(some 21), none, .faddr (.t 5) 1⟩,
       ⟨none, none, .store 1 (.t 21) (.t 20)⟩])
     (.seq
      (.reg [⟨(some 6), none, .mv (.c (.int .i64 0))⟩])
      (.seq
       (.seq
        (.reg [⟨(some 22), none, .faddr (.t 5) 0⟩,
          ⟨(some 23), none, .load none (.t 22)⟩])
        (.block 0
         (.seq
          (.reg [⟨(some 58), none, .bin .eql (.t 23) (.c (.int .u8 0))⟩,
            ⟨(some 57), none, .take 58⟩])
          (.cond (.t 57)
           (.seq
            (.reg [⟨(some 60), none, .load (some 2) (.t 3)⟩,
              ⟨(some 61), none, .call 68 [(.t 60)]⟩,
              ⟨(some 59), none, .take 61⟩,
              ⟨(some 62), none, .extS 59 0⟩,
              ⟨(some 63), none, .extS 59 1⟩,
              ⟨none, none, .store 2 (.t 3) (.t 62)⟩,
              ⟨(some 64), none, .faddr (.t 5) 4⟩,
              ⟨none, none, .store 1 (.t 64) (.t 63)⟩])
            (.seq
             (.reg [⟨(some 66), none, .load (some 2) (.t 3)⟩,
               ⟨(some 67), none, .call 68 [(.t 66)]⟩,
               ⟨(some 65), none, .take 67⟩,
               ⟨(some 68), none, .extS 65 0⟩,
               ⟨(some 69), none, .ext 65 1⟩,
               ⟨none, none, .store 2 (.t 3) (.t 68)⟩,
               ⟨(some 6), none, .take 69⟩])
             (.seq
              (.reg [⟨(some 71), none, .load (some 2) (.t 3)⟩,
                ⟨(some 72), none, .call 69 [(.t 71), (.c (.int .i64 32))]⟩,
                ⟨(some 70), none, .take 72⟩,
                ⟨(some 73), none, .extS 70 0⟩,
                ⟨(some 74), none, .extS 70 1⟩,
                ⟨(some 75), none, .faddr (.t 5) 3⟩,
                ⟨none, none, .store 1 (.t 75) (.t 74)⟩])
              (.reg [⟨(some 76), none, .mv (.t 6)⟩,
                ⟨(some 77), none, .bin .eql (.t 76) (.c (.int .i64 1))⟩,
                ⟨(some 78), none, .faddr (.t 5) 5⟩,
                ⟨none, none, .store 1 (.t 78) (.t 77)⟩]))))
           (.seq
            (.seq
             (.reg [⟨(some 80), none, .bin .eql (.t 23) (.c (.int .u8 1))⟩,
               ⟨(some 79), none, .take 80⟩])
             (.cond (.t 79)
              .skip
              (.reg [⟨(some 81), none, .bin .eql (.t 23) (.c (.int .u8 6))⟩,
                ⟨(some 79), none, .take 81⟩])))
            (.cond (.t 79)
             (.seq
              (.reg [⟨(some 82), none, .load (some 9) (.t 5)⟩,
                ⟨none, none, .store 9 (.t 2) (.t 82)⟩])
              .ret)
             (.seq
              (.reg [⟨(some 25), none, .load (some 2) (.t 3)⟩,
                ⟨(some 26), none, .call 68 [(.t 25)]⟩,
                ⟨(some 24), none, .take 26⟩,
                ⟨(some 27), none, .extS 24 0⟩,
                ⟨(some 28), none, .extS 24 1⟩,
                ⟨none, none, .store 2 (.t 3) (.t 27)⟩,
                ⟨(some 29), none, .faddr (.t 5) 2⟩,
                ⟨none, none, .store 1 (.t 29) (.t 28)⟩])
              (.seq
               (.seq
                (.reg [⟨(some 30), none, .faddr (.t 5) 0⟩,
                  ⟨(some 31), none, .load none (.t 30)⟩,
                  ⟨(some 32), none, .bin .eql (.t 31) (.c (.int .u8 4))⟩])
                (.cond (.t 32)
                 (.reg [⟨(some 34), none, .load (some 2) (.t 3)⟩,
                   ⟨(some 35), none, .call 68 [(.t 34)]⟩,
                   ⟨(some 33), none, .take 35⟩,
                   ⟨(some 36), none, .extS 33 0⟩,
                   ⟨(some 37), none, .extS 33 1⟩,
                   ⟨none, none, .store 2 (.t 3) (.t 36)⟩,
                   ⟨(some 38), none, .faddr (.t 5) 8⟩,
                   ⟨none, none, .store 1 (.t 38) (.t 37)⟩])
                 .skip))
               (.seq
                (.seq
                 (.reg [⟨(some 39), none, .faddr (.t 5) 0⟩,
                   ⟨(some 40), none, .load none (.t 39)⟩,
                   ⟨(some 41), none, .bin .neq (.t 40) (.c (.int .u8 5))⟩])
                 (.cond (.t 41)
                  (.reg [⟨(some 43), none, .load (some 2) (.t 3)⟩,
                    ⟨(some 44), none, .call 68 [(.t 43)]⟩,
                    ⟨(some 42), none, .take 44⟩,
                    ⟨(some 45), none, .extS 42 0⟩,
                    ⟨(some 46), none, .extS 42 1⟩,
                    ⟨none, none, .store 2 (.t 3) (.t 45)⟩,
                    ⟨(some 47), none, .faddr (.t 5) 6⟩,
                    ⟨none, none, .store 1 (.t 47) (.t 46)⟩])
                  .skip))
                (.seq
                 (.reg [⟨(some 48), none, .faddr (.t 5) 0⟩,
                   ⟨(some 49), none, .load none (.t 48)⟩,
                   ⟨(some 50), none, .bin .neq (.t 49) (.c (.int .u8 3))⟩])
                 (.cond (.t 50)
                  (.reg [⟨(some 52), none, .load (some 2) (.t 3)⟩,
                    ⟨(some 53), none, .call 68 [(.t 52)]⟩,
                    ⟨(some 51), none, .take 53⟩,
                    ⟨(some 54), none, .extS 51 0⟩,
                    ⟨(some 55), none, .extS 51 1⟩,
                    ⟨(some 56), none, .faddr (.t 5) 7⟩,
                    ⟨none, none, .store 1 (.t 56) (.t 55)⟩])
                  .skip)))))))))))
       (.seq
        (.reg [⟨(some 83), none, .load (some 9) (.t 5)⟩,
          ⟨none, none, .store 9 (.t 2) (.t 83)⟩])
        .ret)))))))
def ar66 : List AR := [.c 2 (some 9)]
theorem comp66 : Try.f66.body.bind (comp Try.prog 84) = some ac66 := by kernel_rfl
theorem cres66 : compRes Try.prog Try.f66.results.toList = some ar66 := by kernel_rfl
/-- bilander/bilanderref08.only -/
def ac88 : AC :=
 (.seq
  (.reg [⟨(some 1), none, .box 9 (.t 0)⟩,
    ⟨(some 2), none, .alloc [(.int .u8 0), (.int .i64 0), (.int .i64 0), (.str (ByteArray.mk #[])), (.int .i64 0), (.bool false), (.int .i64 0), (.int .i64 0), (.int .i64 0)]⟩])
  (.seq
   (.reg [⟨(some 4), none, .faddr (.t 1) 0⟩,
     ⟨(some 5), none, .load none (.t 4)⟩,
     ⟨(some 6), none, .faddr (.t 1) 1⟩,
     ⟨(some 7), none, .load none (.t 6)⟩,
     ⟨(some 8), none, .build [(.int .u8 0), (.int .i64 0), (.int .i64 0), (.str (ByteArray.mk #[])), (.int .i64 0), (.bool false), (.int .i64 0), (.int .i64 0), (.int .i64 0)] [(0, 1, (.t 5)), (1, 1, (.t 7))]⟩,
     ⟨(some 3), none, .alloc [(.int .u8 0), (.int .i64 0), (.int .i64 0), (.str (ByteArray.mk #[])), (.int .i64 0), (.bool false), (.int .i64 0), (.int .i64 0), (.int .i64 0)]⟩,
     ⟨none, none, .store 9 (.t 3) (.t 8)⟩])
   (.seq
    (.seq
     (.reg [⟨(some 9), none, .faddr (.t 1) 0⟩,
       ⟨(some 10), none, .load none (.t 9)⟩,
       ⟨(some 11), none, .bin .eql (.t 10) (.c (.int .u8 0))⟩])
     (.cond (.t 11)
      (.dreg [(12, 1), (1, 1), (14, 1), (16, 1), (18, 3), (3, 3), (19, 3), (20, 3)] [⟨(some 12), none, .faddr (.t 1) 4⟩,
        ⟨(some 13), none, .load none (.t 12)⟩,
        ⟨(some 14), none, .faddr (.t 1) 5⟩,
        ⟨(some 15), none, .load none (.t 14)⟩,
        ⟨(some 16), none, .faddr (.t 1) 3⟩,
        ⟨(some 17), none, .load none (.t 16)⟩,
        ⟨(some 18), none, .faddr (.t 3) 4⟩,
        ⟨none, none, .store 1 (.t 18) (.t 13)⟩,
        ⟨(some 19), none, .faddr (.t 3) 5⟩,
        ⟨none, none, .store 1 (.t 19) (.t 15)⟩,
        ⟨(some 20), none, .faddr (.t 3) 3⟩,
        ⟨none, none, .store 1 (.t 20) (.t 17)⟩])
      .skip))
    (.seq
     (.seq
      (.reg [⟨(some 21), none, .faddr (.t 1) 0⟩,
        ⟨(some 22), none, .load none (.t 21)⟩,
        ⟨(some 23), none, .bin .geq (.t 22) (.c (.int .u8 2))⟩,
        ⟨(some 24), none, .take 23⟩,
        ⟨(some 25), (some (24, true)), .faddr (.t 1) 0⟩,
        ⟨(some 26), (some (24, true)), .load none (.t 25)⟩,
        ⟨(some 27), (some (24, true)), .bin .leq (.t 26) (.c (.int .u8 5))⟩,
        ⟨(some 28), none, .pick (.t 24) (.t 27) (.c (.bool false))⟩])
      (.cond (.t 28)
       (.reg [⟨(some 29), none, .faddr (.t 1) 2⟩,
         ⟨(some 30), none, .load none (.t 29)⟩,
         ⟨(some 31), none, .faddr (.t 3) 2⟩,
         ⟨none, none, .store 1 (.t 31) (.t 30)⟩])
       .skip))
     (.seq
      (.seq
       (.reg [⟨(some 32), none, .faddr (.t 1) 0⟩,
         ⟨(some 33), none, .load none (.t 32)⟩,
         ⟨(some 34), none, .bin .geq (.t 33) (.c (.int .u8 2))⟩,
         ⟨(some 35), none, .take 34⟩,
         ⟨(some 36), (some (35, true)), .faddr (.t 1) 0⟩,
         ⟨(some 37), (some (35, true)), .load none (.t 36)⟩,
         ⟨(some 38), (some (35, true)), .bin .leq (.t 37) (.c (.int .u8 4))⟩,
         ⟨(some 39), none, .pick (.t 35) (.t 38) (.c (.bool false))⟩])
       (.cond (.t 39)
        (.reg [⟨(some 40), none, .faddr (.t 1) 6⟩,
          ⟨(some 41), none, .load none (.t 40)⟩,
          ⟨(some 42), none, .faddr (.t 3) 6⟩,
          ⟨none, none, .store 1 (.t 42) (.t 41)⟩])
        .skip))
      (.seq
       (.seq
        (.reg [⟨(some 43), none, .faddr (.t 1) 0⟩,
          ⟨(some 44), none, .load none (.t 43)⟩,
          ⟨(some 45), none, .bin .eql (.t 44) (.c (.int .u8 2))⟩,
          ⟨(some 46), none, .take 45⟩,
          ⟨(some 47), (some (46, false)), .faddr (.t 1) 0⟩,
          ⟨(some 48), (some (46, false)), .load none (.t 47)⟩,
          ⟨(some 49), (some (46, false)), .bin .eql (.t 48) (.c (.int .u8 4))⟩,
          ⟨(some 50), none, .pick (.t 46) (.c (.bool true)) (.t 49)⟩,
          ⟨(some 51), none, .take 50⟩,
          ⟨(some 52), (some (51, false)), .faddr (.t 1) 0⟩,
          ⟨(some 53), (some (51, false)), .load none (.t 52)⟩,
          ⟨(some 54), (some (51, false)), .bin .eql (.t 53) (.c (.int .u8 5))⟩,
          ⟨(some 55), none, .pick (.t 51) (.c (.bool true)) (.t 54)⟩])
        (.cond (.t 55)
         (.reg [⟨(some 56), none, .faddr (.t 1) 7⟩,
           ⟨(some 57), none, .load none (.t 56)⟩,
           ⟨(some 58), none, .faddr (.t 3) 7⟩,
           ⟨none, none, .store 1 (.t 58) (.t 57)⟩])
         .skip))
       (.seq
        (.seq
         (.reg [⟨(some 59), none, .faddr (.t 1) 0⟩,
           ⟨(some 60), none, .load none (.t 59)⟩,
           ⟨(some 61), none, .bin .eql (.t 60) (.c (.int .u8 4))⟩])
         (.cond (.t 61)
          (.reg [⟨(some 62), none, .faddr (.t 1) 8⟩,
            ⟨(some 63), none, .load none (.t 62)⟩,
            ⟨(some 64), none, .faddr (.t 3) 8⟩,
            ⟨none, none, .store 1 (.t 64) (.t 63)⟩])
          .skip))
        (.seq
         (.reg [⟨(some 65), none, .load (some 9) (.t 3)⟩,
           ⟨none, none, .store 9 (.t 2) (.t 65)⟩])
         .ret))))))))
def ar88 : List AR := [.c 2 (some 9)]
theorem comp88 : Try.f88.body.bind (comp Try.prog 66) = some ac88 := by kernel_rfl
theorem cres88 : compRes Try.prog Try.f88.results.toList = some ar88 := by kernel_rfl
end Go.Proofs.Ytkiimlmlfhmkiaa
