import Derived.Test.YtikidcgnbcibpaaAvL3
import Derived.Test.YtikidcgnbcibpaaProg
import Derived.KernelRfl
import Derived.Test.YtikidcgnbcibpaaMCpY

set_option linter.unusedVariables false
set_option linter.unusedSimpArgs false

set_option maxRecDepth 100000
namespace Go.Proofs.Ytikidcgnbcibpaa

open Go.Av
/-- bilander/batch.Check -/
def ac14 : AC :=
 (.seq
  (.reg [⟨(some 1), none, .box 6 (.t 0)⟩,
    ⟨(some 2), none, .mv (.c (.int .i64 0))⟩])
  (.seq
   (.seq
    (.reg [⟨(some 8), none, .load (some 6) (.t 1)⟩,
      ⟨(some 9), none, .call 25 [(.t 8)]⟩,
      ⟨(some 3), none, .take 9⟩])
    (.seq
     (.reg [⟨(some 10), none, .mv (.t 3)⟩,
       ⟨(some 11), none, .bin .neq (.t 10) (.c (.int .i64 0))⟩])
     (.cond (.t 11)
      (.seq
       (.reg [⟨(some 12), none, .take 3⟩,
         ⟨(some 2), none, .take 12⟩])
       .ret)
      .skip)))
   (.seq
    (.reg [⟨(some 4), none, .mv (.c (.int .i64 (-1)))⟩])
    (.seq
     (.seq
      (.reg [⟨(some 13), none, .faddr (.t 1) 5⟩,
        ⟨(some 14), none, .load none (.t 13)⟩,
        ⟨(some 15), none, .len false (.t 14)⟩,
        ⟨(some 16), none, .mv (.c (.int .i64 0))⟩])
      (.block 0
       (.loop
        (.seq
         (.reg [⟨(some 17), none, .bin .lss (.t 16) (.t 15)⟩])
         (.seq
          (.cond (.t 17)
           .skip
           (.exit 0))
          (.seq
           (.block 1
            (.seq
             (.reg [⟨(some 18), none, .iaddr 6 (.t 14) (.t 16)⟩,
               ⟨(some 19), none, .load (some 6) (.t 18)⟩,
               ⟨(some 6), none, .alloc [(.int .i64 0), (.int .i64 0), (.bool false), (.str (ByteArray.mk #[])), (.bool false), (.str (ByteArray.mk #[]))]⟩,
               ⟨none, none, .store 6 (.t 6) (.t 19)⟩])
             (.seq
              (.seq
               (.reg [⟨(some 20), none, .load (some 6) (.t 6)⟩,
                 ⟨(some 21), none, .call 26 [(.t 20)]⟩,
                 ⟨(some 7), none, .take 21⟩])
               (.seq
                (.reg [⟨(some 22), none, .mv (.t 7)⟩,
                  ⟨(some 23), none, .bin .neq (.t 22) (.c (.int .i64 0))⟩])
                (.cond (.t 23)
                 (.seq
                  (.reg [⟨(some 24), none, .take 7⟩,
                    ⟨(some 2), none, .take 24⟩])
                  .ret)
                 .skip)))
              (.seq
               (.seq
                (.reg [⟨(some 25), none, .faddr (.t 6) 0⟩,
                  ⟨(some 26), none, .load none (.t 25)⟩,
                  ⟨(some 27), none, .mv (.t 4)⟩,
                  ⟨(some 28), none, .bin .leq (.t 26) (.t 27)⟩,
                  ⟨(some 29), none, .take 28⟩,
                  ⟨(some 30), (some (29, false)), .faddr (.t 6) 0⟩,
                  ⟨(some 31), (some (29, false)), .load none (.t 30)⟩,
                  ⟨(some 32), (some (29, false)), .faddr (.t 1) 1⟩,
                  ⟨(some 33), (some (29, false)), .load none (.t 32)⟩,
                  ⟨(some 34), (some (29, false)), .bin .geq (.t 31) (.t 33)⟩,
                  ⟨(some 35), none, .pick (.t 29) (.c (.bool true)) (.t 34)⟩])
                (.cond (.t 35)
                 (.seq
                  (.reg [⟨(some 2), none, .mv (.c (.int .i64 16))⟩])
                  .ret)
                 .skip))
               (.reg [⟨(some 36), none, .faddr (.t 6) 0⟩,
                 ⟨(some 37), none, .load none (.t 36)⟩,
                 ⟨(some 4), none, .take 37⟩])))))
           (.reg [⟨(some 38), none, .bin .add (.t 16) (.c (.int .i64 1))⟩,
             ⟨(some 16), none, .take 38⟩])))))))
     (.seq
      (.seq
       (.reg [⟨(some 39), none, .load (some 6) (.t 1)⟩,
         ⟨(some 40), none, .call 27 [(.t 39)]⟩,
         ⟨(some 41), none, .len false (.t 40)⟩,
         ⟨(some 42), none, .bin .gtr (.t 41) (.c (.int .i64 8192))⟩])
       (.cond (.t 42)
        (.seq
         (.reg [⟨(some 2), none, .mv (.c (.int .i64 5))⟩])
         .ret)
        .skip))
      (.seq
       (.reg [⟨(some 2), none, .mv (.c (.int .i64 0))⟩])
       .ret))))))
def ar14 : List AR := [.t 2]
theorem comp14 : Try.f14.body.bind (comp Try.prog 43) = some ac14 := by kernel_rfl
theorem cres14 : compRes Try.prog Try.f14.results.toList = some ar14 := by kernel_rfl
/-- bilander/batch.Next -/
def ac15 : AC :=
 (.seq
  (.reg [⟨(some 1), none, .box 6 (.t 0)⟩,
    ⟨(some 2), none, .mv (.c (.int .i64 0))⟩])
  (.seq
   (.reg [⟨(some 3), none, .faddr (.t 1) 0⟩,
     ⟨(some 4), none, .load none (.t 3)⟩,
     ⟨(some 5), none, .faddr (.t 1) 1⟩,
     ⟨(some 6), none, .load none (.t 5)⟩,
     ⟨(some 7), none, .bin .add (.t 4) (.t 6)⟩,
     ⟨(some 2), none, .take 7⟩])
   .ret))
def ar15 : List AR := [.t 2]
theorem comp15 : Try.f15.body.bind (comp Try.prog 8) = some ac15 := by kernel_rfl
theorem cres15 : compRes Try.prog Try.f15.results.toList = some ar15 := by kernel_rfl
/-- bilander/batch.numbers -/
def ac25 : AC :=
 (.seq
  (.reg [⟨(some 1), none, .box 6 (.t 0)⟩,
    ⟨(some 2), none, .mv (.c (.int .i64 0))⟩])
  (.seq
   (.block 0
    (.seq
     (.reg [⟨(some 4), none, .faddr (.t 1) 1⟩,
       ⟨(some 5), none, .load none (.t 4)⟩,
       ⟨(some 6), none, .bin .lss (.t 5) (.c (.int .i64 1))⟩,
       ⟨(some 7), none, .take 6⟩,
       ⟨(some 8), (some (7, false)), .faddr (.t 1) 1⟩,
       ⟨(some 9), (some (7, false)), .load none (.t 8)⟩,
       ⟨(some 10), (some (7, false)), .bin .gtr (.t 9) (.c (.int .i64 32))⟩,
       ⟨(some 11), none, .pick (.t 7) (.c (.bool true)) (.t 10)⟩,
       ⟨(some 12), none, .take 11⟩,
       ⟨(some 13), (some (12, false)), .faddr (.t 1) 0⟩,
       ⟨(some 14), (some (12, false)), .load none (.t 13)⟩,
       ⟨(some 15), (some (12, false)), .faddr (.t 1) 1⟩,
       ⟨(some 16), (some (12, false)), .load none (.t 15)⟩,
       ⟨(some 17), (some (12, false)), .bin .sub (.c (.int .i64 4611686018427387903)) (.t 16)⟩,
       ⟨(some 18), (some (12, false)), .call 31 [(.t 14), (.t 17)]⟩,
       ⟨(some 19), (some (12, false)), .una .not (.t 18)⟩,
       ⟨(some 20), none, .pick (.t 12) (.c (.bool true)) (.t 19)⟩,
       ⟨(some 3), none, .take 20⟩])
     (.cond (.t 3)
      (.seq
       (.reg [⟨(some 2), none, .mv (.c (.int .i64 11))⟩])
       .ret)
      (.seq
       (.reg [⟨(some 22), none, .faddr (.t 1) 2⟩,
         ⟨(some 23), none, .load none (.t 22)⟩,
         ⟨(some 24), none, .call 31 [(.t 23), (.c (.int .i64 1099511627776))]⟩,
         ⟨(some 25), none, .una .not (.t 24)⟩,
         ⟨(some 26), none, .take 25⟩,
         ⟨(some 27), (some (26, false)), .faddr (.t 1) 3⟩,
         ⟨(some 28), (some (26, false)), .load none (.t 27)⟩,
         ⟨(some 29), (some (26, false)), .call 31 [(.t 28), (.c (.int .i64 32767))]⟩,
         ⟨(some 30), (some (26, false)), .una .not (.t 29)⟩,
         ⟨(some 31), none, .pick (.t 26) (.c (.bool true)) (.t 30)⟩,
         ⟨(some 32), none, .take 31⟩,
         ⟨(some 33), (some (32, false)), .faddr (.t 1) 4⟩,
         ⟨(some 34), (some (32, false)), .load none (.t 33)⟩,
         ⟨(some 35), (some (32, false)), .call 31 [(.t 34), (.c (.int .i64 2147483647))]⟩,
         ⟨(some 36), (some (32, false)), .una .not (.t 35)⟩,
         ⟨(some 37), none, .pick (.t 32) (.c (.bool true)) (.t 36)⟩,
         ⟨(some 21), none, .take 37⟩])
       (.cond (.t 21)
        (.seq
         (.reg [⟨(some 2), none, .mv (.c (.int .i64 11))⟩])
         .ret)
        (.seq
         (.reg [⟨(some 39), none, .faddr (.t 1) 2⟩,
           ⟨(some 40), none, .load none (.t 39)⟩,
           ⟨(some 41), none, .bin .eql (.t 40) (.c (.int .i64 0))⟩,
           ⟨(some 42), none, .take 41⟩,
           ⟨(some 43), (some (42, true)), .faddr (.t 1) 3⟩,
           ⟨(some 44), (some (42, true)), .load none (.t 43)⟩,
           ⟨(some 45), (some (42, true)), .bin .neq (.t 44) (.c (.int .i64 0))⟩,
           ⟨(some 46), (some (42, true)), .take 45⟩,
           ⟨(some 47), (some (46, false)), .faddr (.t 1) 4⟩,
           ⟨(some 48), (some (46, false)), .load none (.t 47)⟩,
           ⟨(some 49), (some (46, false)), .bin .neq (.t 48) (.c (.int .i64 0))⟩,
           ⟨(some 50), (some (42, true)), .pick (.t 46) (.c (.bool true)) (.t 49)⟩,
           ⟨(some 51), none, .pick (.t 42) (.t 50) (.c (.bool false))⟩,
           ⟨(some 38), none, .take 51⟩])
         (.cond (.t 38)
          (.seq
           (.reg [⟨(some 2), none, .mv (.c (.int .i64 4))⟩])
           .ret)
          (.seq
           (.reg [⟨(some 53), none, .faddr (.t 1) 5⟩,
             ⟨(some 54), none, .load none (.t 53)⟩,
             ⟨(some 55), none, .len false (.t 54)⟩,
             ⟨(some 56), none, .faddr (.t 1) 1⟩,
             ⟨(some 57), none, .load none (.t 56)⟩,
             ⟨(some 58), none, .bin .gtr (.t 55) (.t 57)⟩,
             ⟨(some 52), none, .take 58⟩])
           (.cond (.t 52)
            (.seq
             (.reg [⟨(some 2), none, .mv (.c (.int .i64 5))⟩])
             .ret)
            .skip)))))))))
   (.seq
    (.reg [⟨(some 2), none, .mv (.c (.int .i64 0))⟩])
    .ret)))
def ar25 : List AR := [.t 2]
theorem comp25 : Try.f25.body.bind (comp Try.prog 59) = some ac25 := by kernel_rfl
theorem cres25 : compRes Try.prog Try.f25.results.toList = some ar25 := by kernel_rfl
/-- bilander/record.Check -/
def ac26 : AC :=
 (.seq
  (.reg [⟨(some 1), none, .box 6 (.t 0)⟩,
    ⟨(some 2), none, .mv (.c (.int .i64 0))⟩])
  (.seq
   (.block 0
    (.seq
     (.seq
      (.reg [⟨(some 4), none, .faddr (.t 1) 0⟩,
        ⟨(some 5), none, .load none (.t 4)⟩,
        ⟨(some 6), none, .bin .lss (.t 5) (.c (.int .i64 0))⟩,
        ⟨(some 3), none, .take 6⟩])
      (.cond (.t 3)
       .skip
       (.seq
        (.reg [⟨(some 7), none, .faddr (.t 1) 0⟩,
          ⟨(some 8), none, .load none (.t 7)⟩,
          ⟨(some 9), none, .bin .geq (.t 8) (.c (.int .i64 32))⟩,
          ⟨(some 3), none, .take 9⟩])
        (.cond (.t 3)
         .skip
         (.seq
          (.reg [⟨(some 10), none, .faddr (.t 1) 1⟩,
            ⟨(some 11), none, .load none (.t 10)⟩,
            ⟨(some 12), none, .bin .lss (.t 11) (.c (.int .i64 0))⟩,
            ⟨(some 3), none, .take 12⟩])
          (.cond (.t 3)
           .skip
           (.reg [⟨(some 13), none, .faddr (.t 1) 1⟩,
             ⟨(some 14), none, .load none (.t 13)⟩,
             ⟨(some 15), none, .bin .gtr (.t 14) (.c (.int .i64 1099511627776))⟩,
             ⟨(some 3), none, .take 15⟩])))))))
     (.cond (.t 3)
      (.seq
       (.reg [⟨(some 2), none, .mv (.c (.int .i64 11))⟩])
       .ret)
      (.seq
       (.seq
        (.reg [⟨(some 17), none, .faddr (.t 1) 3⟩,
          ⟨(some 18), none, .load none (.t 17)⟩,
          ⟨(some 19), none, .len true (.t 18)⟩,
          ⟨(some 20), none, .bin .gtr (.t 19) (.c (.int .i64 64))⟩,
          ⟨(some 16), none, .take 20⟩])
        (.cond (.t 16)
         .skip
         (.reg [⟨(some 21), none, .faddr (.t 1) 5⟩,
           ⟨(some 22), none, .load none (.t 21)⟩,
           ⟨(some 23), none, .len true (.t 22)⟩,
           ⟨(some 24), none, .bin .gtr (.t 23) (.c (.int .i64 512))⟩,
           ⟨(some 16), none, .take 24⟩])))
       (.cond (.t 16)
        (.seq
         (.reg [⟨(some 2), none, .mv (.c (.int .i64 5))⟩])
         .ret)
        (.seq
         (.seq
          (.reg [⟨(some 26), none, .faddr (.t 1) 2⟩,
            ⟨(some 27), none, .load none (.t 26)⟩,
            ⟨(some 28), none, .una .not (.t 27)⟩,
            ⟨(some 29), none, .take 28⟩,
            ⟨(some 30), (some (29, true)), .faddr (.t 1) 3⟩,
            ⟨(some 31), (some (29, true)), .load none (.t 30)⟩,
            ⟨(some 32), (some (29, true)), .bin .neq (.t 31) (.c (.str (ByteArray.mk #[])))⟩,
            ⟨(some 33), (some (29, true)), .take 32⟩,
            ⟨(some 34), (some (33, false)), .faddr (.t 1) 4⟩,
            ⟨(some 35), (some (33, false)), .load none (.t 34)⟩,
            ⟨(some 36), (some (29, true)), .pick (.t 33) (.c (.bool true)) (.t 35)⟩,
            ⟨(some 37), none, .pick (.t 29) (.t 36) (.c (.bool false))⟩,
            ⟨(some 25), none, .take 37⟩])
          (.cond (.t 25)
           .skip
           (.reg [⟨(some 38), none, .faddr (.t 1) 4⟩,
             ⟨(some 39), none, .load none (.t 38)⟩,
             ⟨(some 40), none, .take 39⟩,
             ⟨(some 41), (some (40, true)), .faddr (.t 1) 5⟩,
             ⟨(some 42), (some (40, true)), .load none (.t 41)⟩,
             ⟨(some 43), (some (40, true)), .bin .neq (.t 42) (.c (.str (ByteArray.mk #[])))⟩,
             ⟨(some 44), none, .pick (.t 40) (.t 43) (.c (.bool false))⟩,
             ⟨(some 25), none, .take 44⟩])))
         (.cond (.t 25)
          (.seq
           (.reg [⟨(some 2), none, .mv (.c (.int .i64 4))⟩])
           .ret)
          .skip)))))))
   (.seq
    (.reg [⟨(some 2), none, .mv (.c (.int .i64 0))⟩])
    .ret)))
def ar26 : List AR := [.t 2]
theorem comp26 : Try.f26.body.bind (comp Try.prog 45) = some ac26 := by kernel_rfl
theorem cres26 : compRes Try.prog Try.f26.results.toList = some ar26 := by kernel_rfl
/-- bilander/batch.lay -/
def ac27 : AC :=
 (.seq
  (.reg [⟨(some 1), none, .box 6 (.t 0)⟩,
    ⟨(some 2), none, .mv (.c .nils)⟩])
  (.seq
   (.reg [⟨(some 3), none, .mv (.c .nils)⟩])
   (.seq
    (.seq
     (.reg [⟨(some 10), none, .load (some 6) (.t 1)⟩,
       ⟨(some 11), none, .call 32 [(.t 10)]⟩,
       ⟨(some 12), none, .mv (.c (.int .i64 0))⟩])
     (.block 0
      (.loop
       (.seq
        (.reg [⟨(some 13), none, .bin .lss (.t 12) (.c (.int .i64 6))⟩])
        (.seq
         (.cond (.t 13)
          .skip
          (.exit 0))
         (.seq
          (.block 1
           (.seq
            (.reg [⟨(some 14), none, .idxA 6 1 none (.t 11) (.t 12)⟩,
              ⟨(some 5), none, .take 14⟩])
            (.reg [⟨(some 15), none, .take 3⟩,
              ⟨(some 16), none, .mv (.t 5)⟩,
              ⟨(some 17), none, .call 33 [(.t 16)]⟩,
              ⟨(some 18), none, .app 1 1 15 (.t 17)⟩,
              ⟨(some 3), none, .take 18⟩])))
          (.reg [⟨(some 19), none, .bin .add (.t 12) (.c (.int .i64 1))⟩,
            ⟨(some 12), none, .take 19⟩])))))))
    (.seq
     (.seq
      (.reg [⟨(some 20), none, .faddr (.t 1) 5⟩,
        ⟨(some 21), none, .load none (.t 20)⟩,
        ⟨(some 22), none, .len false (.t 21)⟩,
        ⟨(some 23), none, .mv (.c (.int .i64 0))⟩])
      (.block 2
       (.loop
        (.seq
         (.reg [⟨(some 24), none, .bin .lss (.t 23) (.t 22)⟩])
         (.seq
          (.cond (.t 24)
           .skip
           (.exit 2))
          (.seq
           (.block 3
            (.seq
             (.reg [⟨(some 25), none, .iaddr 6 (.t 21) (.t 23)⟩,
               ⟨(some 26), none, .load (some 6) (.t 25)⟩,
               ⟨(some 7), none, .alloc [(.int .i64 0), (.int .i64 0), (.bool false), (.str (ByteArray.mk #[])), (.bool false), (.str (ByteArray.mk #[]))]⟩,
               ⟨none, none, .store 6 (.t 7) (.t 26)⟩])
             (.seq
              (.reg [⟨(some 28), none, .load (some 6) (.t 7)⟩,
                ⟨(some 29), none, .call 34 [(.t 28)]⟩,
                ⟨(some 27), none, .take 29⟩,
                ⟨(some 30), none, .ext 27 0⟩,
                ⟨(some 31), none, .ext 27 1⟩,
                ⟨(some 8), none, .take 30⟩,
                ⟨(some 9), none, .take 31⟩])
              (.reg [⟨(some 32), none, .take 3⟩,
                ⟨(some 33), none, .mv (.t 8)⟩,
                ⟨(some 34), none, .app 1 1 32 (.t 33)⟩,
                ⟨(some 3), none, .take 34⟩]))))
           (.reg [⟨(some 35), none, .bin .add (.t 23) (.c (.int .i64 1))⟩,
             ⟨(some 23), none, .take 35⟩])))))))
     (.seq
      (.reg [⟨(some 36), none, .take 3⟩,
        ⟨(some 2), none, .take 36⟩])
      .ret)))))
def ar27 : List AR := [.t 2]
theorem comp27 : Try.f27.body.bind (comp Try.prog 37) = some ac27 := by kernel_rfl
theorem cres27 : compRes Try.prog Try.f27.results.toList = some ar27 := by kernel_rfl
/-- bilander/batch.within -/
def ac31 : AC :=
 (.seq
  (.reg [⟨(some 4), none, .mv (.c (.bool false))⟩])
  (.seq
   (.reg [⟨(some 5), none, .mv (.t 0)⟩,
     ⟨(some 6), none, .bin .geq (.t 5) (.c (.int .i64 0))⟩,
     ⟨(some 7), none, .take 6⟩,
     ⟨(some 8), (some (7, true)), .mv (.t 0)⟩,
     ⟨(some 9), (some (7, true)), .mv (.t 1)⟩,
     ⟨(some 10), (some (7, true)), .bin .leq (.t 8) (.t 9)⟩,
     ⟨(some 11), none, .pick (.t 7) (.t 10) (.c (.bool false))⟩,
     ⟨(some 4), none, .take 11⟩])
   .ret))
def ar31 : List AR := [.t 4]
theorem comp31 : Try.f31.body.bind (comp Try.prog 12) = some ac31 := by kernel_rfl
theorem cres31 : compRes Try.prog Try.f31.results.toList = some ar31 := by kernel_rfl
/-- bilander/batch.head -/
def ac32 : AC :=
 (.seq
  (.reg [⟨(some 1), none, .box 6 (.t 0)⟩,
    ⟨(some 2), none, .alloc [(.int .i64 0), (.int .i64 0), (.int .i64 0), (.int .i64 0), (.int .i64 0), (.int .i64 0)]⟩])
  (.seq
   (.reg [⟨(some 3), none, .faddr (.t 1) 0⟩,
     ⟨(some 4), none, .load none (.t 3)⟩,
     ⟨(some 5), none, .faddr (.t 1) 1⟩,
     ⟨(some 6), none, .load none (.t 5)⟩,
     ⟨(some 7), none, .faddr (.t 1) 2⟩,
     ⟨(some 8), none, .load none (.t 7)⟩,
     ⟨(some 9), none, .faddr (.t 1) 3⟩,
     ⟨(some 10), none, .load none (.t 9)⟩,
     ⟨(some 11), none, .faddr (.t 1) 4⟩,
     ⟨(some 12), none, .load none (.t 11)⟩,
     ⟨(some 13), none, .faddr (.t 1) 5⟩,
     ⟨(some 14), none, .load none (.t 13)⟩,
     ⟨(some 15), none, .len false (.t 14)⟩,
     ⟨(some 16), none, .build [(.int .i64 0), (.int .i64 0), (.int .i64 0), (.int .i64 0), (.int .i64 0), (.int .i64 0)] [(0, 1, (.t 4)), (1, 1, (.t 6)), (2, 1, (.t 8)), (3, 1, (.t 10)), (4, 1, (.t 12)), (5, 1, (.t 15))]⟩,
     ⟨none, none, .store 6 (.t 2) (.t 16)⟩])
   .ret))
def ar32 : List AR := [.c 2 (some 6)]
theorem comp32 : Try.f32.body.bind (comp Try.prog 17) = some ac32 := by kernel_rfl
theorem cres32 : compRes Try.prog Try.f32.results.toList = some ar32 := by kernel_rfl
/-- bilander/varnum.Put -/
def ac33 : AC :=
 (.seq
  (.reg [⟨(some 2), none, .mv (.c .nils)⟩])
  (.seq
   (.reg [⟨(some 3), none, .mv (.t 0)⟩,
     ⟨(some 4), none, .call 37 [(.t 3)]⟩,
     ⟨(some 5), none, .call 36 [(.t 4)]⟩,
     ⟨(some 2), none, .take 5⟩])
   .ret))
def ar33 : List AR := [.t 2]
theorem comp33 : Try.f33.body.bind (comp Try.prog 6) = some ac33 := by kernel_rfl
theorem cres33 : compRes Try.prog Try.f33.results.toList = some ar33 := by kernel_rfl
/-- bilander/record.Put -/
def ac34 : AC :=
 (.seq
  (.reg [⟨(some 1), none, .box 6 (.t 0)⟩,
    ⟨(some 2), none, .mv (.c .nils)⟩,
    ⟨(some 3), none, .mv (.c (.int .i64 0))⟩])
  (.seq
   (.seq
    (.reg [⟨(some 7), none, .load (some 6) (.t 1)⟩,
      ⟨(some 8), none, .call 26 [(.t 7)]⟩,
      ⟨(some 4), none, .take 8⟩])
    (.seq
     (.reg [⟨(some 9), none, .mv (.t 4)⟩,
       ⟨(some 10), none, .bin .neq (.t 9) (.c (.int .i64 0))⟩])
     (.cond (.t 10)
      (.seq
       (.reg [⟨(some 11), none, .take 4⟩,
         ⟨(some 2), none, .mv (.c .nils)⟩,
         ⟨(some 3), none, .take 11⟩])
       .ret)
      .skip)))
   (.seq
    (.reg [⟨(some 5), none, .mv (.c (.int .u8 0))⟩])
    (.seq
     (.seq
      (.reg [⟨(some 12), none, .faddr (.t 1) 2⟩,
        ⟨(some 13), none, .load none (.t 12)⟩])
      (.cond (.t 13)
       (.reg [⟨(some 14), none, .take 5⟩,
         ⟨(some 15), none, .bin .or (.t 14) (.c (.int .u8 1))⟩,
         ⟨(some 5), none, .take 15⟩])
       .skip))
     (.seq
      (.seq
       (.reg [⟨(some 16), none, .faddr (.t 1) 4⟩,
         ⟨(some 17), none, .load none (.t 16)⟩])
       (.cond (.t 17)
        (.reg [⟨(some 18), none, .take 5⟩,
          ⟨(some 19), none, .bin .or (.t 18) (.c (.int .u8 2))⟩,
          ⟨(some 5), none, .take 19⟩])
        .skip))
      (.seq
       (.reg [⟨(some 20), none, .mv (.t 5)⟩,
         ⟨(some 21), none, .bsl 1 1 [(.int .u8 0)] [(0, (.t 20))]⟩,
         ⟨(some 22), none, .faddr (.t 1) 0⟩,
         ⟨(some 23), none, .load none (.t 22)⟩,
         ⟨(some 24), none, .call 33 [(.t 23)]⟩,
         ⟨(some 25), none, .app 1 1 21 (.t 24)⟩,
         ⟨(some 6), none, .take 25⟩])
       (.seq
        (.reg [⟨(some 26), none, .take 6⟩,
          ⟨(some 27), none, .faddr (.t 1) 1⟩,
          ⟨(some 28), none, .load none (.t 27)⟩,
          ⟨(some 29), none, .call 33 [(.t 28)]⟩,
          ⟨(some 30), none, .app 1 1 26 (.t 29)⟩,
          ⟨(some 6), none, .take 30⟩])
        (.seq
         (.seq
          (.reg [⟨(some 31), none, .faddr (.t 1) 2⟩,
            ⟨(some 32), none, .load none (.t 31)⟩])
          (.cond (.t 32)
           (.reg [⟨(some 33), none, .take 6⟩,
             ⟨(some 34), none, .faddr (.t 1) 3⟩,
             ⟨(some 35), none, .load none (.t 34)⟩,
             ⟨(some 36), none, .call 38 [(.t 35)]⟩,
             ⟨(some 37), none, .app 1 1 33 (.t 36)⟩,
             ⟨(some 6), none, .take 37⟩])
           .skip))
         (.seq
          (.seq
           (.reg [⟨(some 38), none, .faddr (.t 1) 4⟩,
             ⟨(some 39), none, .load none (.t 38)⟩,
             ⟨(some 40), none, .una .not (.t 39)⟩])
           (.cond (.t 40)
            (.reg [⟨(some 41), none, .take 6⟩,
              ⟨(some 42), none, .faddr (.t 1) 5⟩,
              ⟨(some 43), none, .load none (.t 42)⟩,
              ⟨(some 44), none, .call 38 [(.t 43)]⟩,
              ⟨(some 45), none, .app 1 1 41 (.t 44)⟩,
              ⟨(some 6), none, .take 45⟩])
            .skip))
          (.seq
           (.reg [⟨(some 46), none, .take 6⟩,
             ⟨(some 2), none, .take 46⟩,
             ⟨(some 3), none, .mv (.c (.int .i64 0))⟩])
           .ret))))))))))
def ar34 : List AR := [.t 2, .t 3]
theorem comp34 : Try.f34.body.bind (comp Try.prog 47) = some ac34 := by kernel_rfl
theorem cres34 : compRes Try.prog Try.f34.results.toList = some ar34 := by kernel_rfl
/-- bilander/varnum.lay -/
def ac36 : AC :=
 (.seq
  (.reg [⟨(some 2), none, .mv (.c .nils)⟩])
  (.seq
   (.reg [⟨(some 3), none, .mv (.c .nils)⟩])
   (.seq
    (.block 0
     (.loop
      (.seq
       (.seq
        (.reg [⟨(some 4), none, .mv (.t 0)⟩,
          ⟨(some 5), none, .bin .gtr (.t 4) (.c (.int .u64 127))⟩])
        (.cond (.t 5)
         .skip
         (.exit 0)))
       (.seq
        (.block 1
         (.reg [⟨(some 8), none, .take 3⟩,
           ⟨(some 9), none, .mv (.t 0)⟩,
           ⟨(some 10), none, .conv .u8 (.t 9)⟩,
           ⟨(some 11), none, .bin .or (.t 10) (.c (.int .u8 128))⟩,
           ⟨(some 12), none, .bsl 1 1 [(.int .u8 0)] [(0, (.t 11))]⟩,
           ⟨(some 13), none, .app 1 1 8 (.t 12)⟩,
           ⟨(some 3), none, .take 13⟩]))
        (.reg [⟨(some 6), none, .take 0⟩,
          ⟨(some 7), none, .bin .shr (.t 6) (.c (.int .u64 7))⟩,
          ⟨(some 0), none, .take 7⟩])))))
    (.seq
     (.reg [⟨(some 14), none, .take 3⟩,
       ⟨(some 15), none, .mv (.t 0)⟩,
       ⟨(some 16), none, .conv .u8 (.t 15)⟩,
       ⟨(some 17), none, .bsl 1 1 [(.int .u8 0)] [(0, (.t 16))]⟩,
       ⟨(some 18), none, .app 1 1 14 (.t 17)⟩,
       ⟨(some 2), none, .take 18⟩])
     .ret))))
def ar36 : List AR := [.t 2]
theorem comp36 : Try.f36.body.bind (comp Try.prog 19) = some ac36 := by kernel_rfl
theorem cres36 : compRes Try.prog Try.f36.results.toList = some ar36 := by kernel_rfl
/-- bilander/varnum.Zigzag -/
def ac37 : AC :=
 (.seq
  (.reg [⟨(some 2), none, .mv (.c (.int .u64 0))⟩])
  (.seq
   (.reg [⟨(some 3), none, .mv (.t 0)⟩,
     ⟨(some 4), none, .conv .u64 (.t 3)⟩,
     ⟨(some 5), none, .bin .shl (.t 4) (.c (.int .u64 1))⟩,
     ⟨(some 6), none, .mv (.t 0)⟩,
     ⟨(some 7), none, .bin .shr (.t 6) (.c (.int .u64 63))⟩,
     ⟨(some 8), none, .conv .u64 (.t 7)⟩,
     ⟨(some 9), none, .bin .xor (.t 5) (.t 8)⟩,
     ⟨(some 2), none, .take 9⟩])
   .ret))
def ar37 : List AR := [.t 2]
theorem comp37 : Try.f37.body.bind (comp Try.prog 10) = some ac37 := by kernel_rfl
theorem cres37 : compRes Try.prog Try.f37.results.toList = some ar37 := by kernel_rfl
/-- bilander/varnum.Text -/
def ac38 : AC :=
 (.seq
  (.reg [⟨(some 2), none, .mv (.c .nils)⟩])
  (.seq
   (.reg [⟨(some 3), none, .mv (.t 0)⟩,
     ⟨(some 4), none, .len true (.t 3)⟩,
     ⟨(some 5), none, .call 33 [(.t 4)]⟩,
     ⟨(some 6), none, .mv (.t 0)⟩,
     ⟨(some 7), none, .appS 5 (.t 6)⟩,
     ⟨(some 2), none, .take 7⟩])
   .ret))
def ar38 : List AR := [.t 2]
theorem comp38 : Try.f38.body.bind (comp Try.prog 8) = some ac38 := by kernel_rfl
theorem cres38 : compRes Try.prog Try.f38.results.toList = some ar38 := by kernel_rfl
end Go.Proofs.Ytikidcgnbcibpaa

/- Compact: what stays, beside what was (plain). -/

set_option linter.unusedSimpArgs false
set_option linter.unusedVariables false
set_option maxHeartbeats 4000000
namespace Go.Proofs.Ytikidcgnbcibpaa

open Go.Av Go.Cp
theorem part_mem (few : List Rec) : ∀ (all : List Rec) (n : Nat), n ≤ few.length → partN few n all = few.length → ∀ r ∈ few.drop n, r ∈ all
  | [], n, hn, h, r, hr => by
    unfold partN at h
    subst h
    simp at hr
  | a :: all, n, hn, h, r, hr => by
    unfold partN at h
    by_cases h1 : n < few.length
    · rw [if_pos h1] at h
      by_cases h2 : recS (few.getD n rec0) a = true
      · rw [if_pos h2] at h
        rw [List.drop_eq_getElem_cons h1] at hr
        rcases List.mem_cons.1 hr with rfl | hr
        · have := (recS_iff _ _).1 h2
          rw [List.getD_eq_getElem?_getD, List.getElem?_eq_getElem h1] at this
          simp only [Option.getD_some] at this
          rw [this]; simp
        · exact List.mem_cons_of_mem _ (part_mem few all (n + 1) (by omega) h r hr)
      · rw [if_neg h2] at h
        exact List.mem_cons_of_mem _ (part_mem few all n (by omega) h r hr)
    · rw [List.drop_eq_nil_of_le (by omega)] at hr
      cases hr
theorem part_filter (p : Rec → Bool) (few : List Rec) : ∀ (all : List Rec) (n : Nat), n ≤ few.length → few.drop n = all.filter p → partN few n all = few.length
  | [], n, hn, h => by
    unfold partN
    have : few.length - n = 0 := by rw [← List.length_drop, h]; rfl
    omega
  | a :: all, n, hn, h => by
    unfold partN
    by_cases h1 : n < few.length
    · rw [if_pos h1]
      rw [List.filter_cons] at h
      have hd := List.drop_eq_getElem_cons h1
      have hg : few.getD n rec0 = few[n] := by rw [List.getD_eq_getElem?_getD, List.getElem?_eq_getElem h1]; rfl
      by_cases hp : p a = true
      · rw [if_pos hp, hd] at h
        injection h with e1 e2
        rw [if_pos (by rw [hg, e1]; exact (recS_iff _ _).2 rfl)]
        exact part_filter p few all (n + 1) (by omega) e2
      · rw [if_neg hp] at h
        rw [if_neg (fun q => hp (by
          have e := (recS_iff _ _).1 q
          have hm : few[n] ∈ all.filter p := by rw [← h, hd]; exact List.mem_cons_self
          rw [← e, hg]
          exact (List.mem_filter.1 hm).2))]
        exact part_filter p few all n (by omega) h
    · rw [if_neg h1]; omega
/-- The record that comes next, beside those that stay. -/
theorem filt_succ (p : Rec → Bool) (rs : List Rec) {m : Nat} (hm : m < rs.length) : (rs.take (m + 1)).filter p = (rs.take m).filter p ++ (if p (rs.getD m rec0) = true then [rs.getD m rec0] else []) := by
  rw [List.take_add_one, List.filter_append, List.getD_eq_getElem?_getD, List.getElem?_eq_getElem hm]
  simp only [Option.toList_some, List.filter_cons, List.filter_nil, Option.getD_some]
theorem filt_split (p : Rec → Bool) (rs : List Rec) (m : Nat) : rs.filter p = (rs.take m).filter p ++ (rs.drop m).filter p := by
  rw [← List.filter_append, List.take_append_drop]
theorem filt_next (p : Rec → Bool) (rs : List Rec) {m : Nat} (hm : m < rs.length) : (p (rs.getD m rec0) = true → ((rs.take m).filter p).length < (rs.filter p).length ∧ (rs.filter p).getD ((rs.take m).filter p).length rec0 = rs.getD m rec0) ∧ (p (rs.getD m rec0) = false → ((rs.take m).filter p).length < (rs.filter p).length → (rs.filter p).getD ((rs.take m).filter p).length rec0 ≠ rs.getD m rec0) := by
  have hs := filt_split p rs m
  have hd : rs.drop m = rs.getD m rec0 :: rs.drop (m + 1) := by
    rw [List.drop_eq_getElem_cons hm, List.getD_eq_getElem?_getD, List.getElem?_eq_getElem hm]; rfl
  rw [hd, List.filter_cons] at hs
  refine ⟨fun hp => ?_, fun hp hl e => ?_⟩
  · rw [if_pos hp] at hs
    rw [hs]
    refine ⟨by simp, ?_⟩
    rw [List.getD_eq_getElem?_getD, List.getElem?_append_right (Nat.le_refl _)]
    simp
  · have hmem : (rs.filter p).getD ((rs.take m).filter p).length rec0 ∈ rs.filter p := by
      rw [List.getD_eq_getElem?_getD, List.getElem?_eq_getElem hl]; exact List.getElem_mem hl
    rw [e] at hmem
    rw [(List.mem_filter.1 hmem).2] at hp
    cases hp
theorem last_gen (k : ByteArray) (ps : List (Bat × Rec)) : ∀ (o : Option Int) (a : Int), (o = some a → ∃ c, ps.foldl (stepS k) o = some c ∧ a ≤ c) := by
  induction ps with
  | nil => intro o a h; exact ⟨a, h, Int.le_refl _⟩
  | cons p ps ih =>
    intro o a h
    subst h
    rw [List.foldl_cons]
    unfold stepS
    split
    · simp only
      split
      · obtain ⟨c, h1, h2⟩ := ih (some (atS p.1 p.2)) _ rfl
        exact ⟨c, h1, by omega⟩
      · exact ih _ a rfl
    · exact ih _ a rfl
theorem last_up (k : ByteArray) (ps : List (Bat × Rec)) : ∀ (o : Option Int) (p : Bat × Rec), p ∈ ps → p.2.kd = true → p.2.key = k → ∃ c, ps.foldl (stepS k) o = some c ∧ atS p.1 p.2 ≤ c := by
  induction ps with
  | nil => intro o p h; cases h
  | cons q ps ih =>
    intro o p hp hk hy
    rw [List.foldl_cons]
    rcases List.mem_cons.1 hp with rfl | hp
    · have : ∃ a, stepS k o p = some a ∧ atS p.1 p.2 ≤ a := by
        unfold stepS
        rw [if_pos ⟨hk, hy⟩]
        cases o with
        | none => exact ⟨_, rfl, Int.le_refl _⟩
        | some a =>
          simp only
          split
          · exact ⟨_, rfl, Int.le_refl _⟩
          · exact ⟨_, rfl, by omega⟩
      obtain ⟨a, h1, h2⟩ := this
      obtain ⟨c, h3, h4⟩ := last_gen k ps _ a h1
      exact ⟨c, h3, by omega⟩
    · exact ih _ p hp hk hy
/-- A record that goes had a later one of its key, or was dead. -/
theorem goes {ps : List (Bat × Rec)} {now grace : Int} {b : Bat} {r : Rec} (hm : (b, r) ∈ ps) (h : keepP ps now grace b r = false) : r.kd = true ∧ (r.dd = true ∨ ¬ (atS b r ≥ (lastP ps r.key).getD 0)) := by
  unfold keepP at h
  cases hk : r.kd with
  | false => rw [hk] at h; simp at h
  | true =>
    refine ⟨rfl, ?_⟩
    cases hd : r.dd with
    | true => exact .inl rfl
    | false =>
      refine .inr fun hge => ?_
      obtain ⟨c, h1, h2⟩ := last_up r.key ps none (b, r) hm hk rfl
      have h1' : lastP ps r.key = some c := h1
      rw [h1'] at h hge
      simp only [Option.getD_some] at h hge
      simp only at h2
      have : atS b r = c := by omega
      rw [this, hk] at h
      simp [lateS, hd] at h
def kept (ps : List (Bat × Rec)) (now grace : Int) (x : Bat) : Bool := !(x.rs.filter (keepP ps now grace x)).isEmpty || decide (x.pr ≠ 0)
theorem clean_at {ps : List (Bat × Rec)} {now grace : Int} {l : List Bat} {i : Nat} (hi : i < l.length) (hk : kept ps now grace (l.getD i bat0) = true) :
    (cleanT ps now grace (l.take (i + 1))).length = (cleanT ps now grace (l.take i)).length + 1 ∧ (cleanT ps now grace (l.take i)).length < (cleanT ps now grace l).length ∧ (cleanT ps now grace l).getD (cleanT ps now grace (l.take i)).length bat0 = { (l.getD i bat0) with rs := (l.getD i bat0).rs.filter (keepP ps now grace (l.getD i bat0)) } := by
  have hs := cleanT_succ ps now grace l hi
  unfold kept at hk
  rw [if_pos hk] at hs
  have hl : cleanT ps now grace l = cleanT ps now grace (l.take (i + 1)) ++ cleanT ps now grace (l.drop (i + 1)) := by
    conv => lhs; rw [← List.take_append_drop (i + 1) l]
    unfold cleanT
    rw [List.map_append, List.filter_append]
  rw [hl, hs]
  refine ⟨by simp, by simp, ?_⟩
  rw [List.getD_eq_getElem?_getD, List.append_assoc, List.getElem?_append_right (Nat.le_refl _)]
  simp
theorem clean_skip {ps : List (Bat × Rec)} {now grace : Int} {l : List Bat} {i : Nat} (hi : i < l.length) (hk : kept ps now grace (l.getD i bat0) = false) :
    cleanT ps now grace (l.take (i + 1)) = cleanT ps now grace (l.take i) := by
  have hs := cleanT_succ ps now grace l hi
  unfold kept at hk
  rw [hk] at hs
  simpa using hs
/-- What goes is like none of those that stay. -/
theorem clean_unlike {ps : List (Bat × Rec)} {now grace : Int} {l : List Bat} {x : Bat} (hk : kept ps now grace x = false) {n : Nat} (hn : n < (cleanT ps now grace l).length) (h1 : ((cleanT ps now grace l).getD n bat0).ba = x.ba) (h2 : ((cleanT ps now grace l).getD n bat0).pr = x.pr) :
    partN ((cleanT ps now grace l).getD n bat0).rs 0 x.rs ≠ ((cleanT ps now grace l).getD n bat0).rs.length := by
  intro hp
  have hm : (cleanT ps now grace l).getD n bat0 ∈ cleanT ps now grace l := by
    rw [List.getD_eq_getElem?_getD, List.getElem?_eq_getElem hn]; exact List.getElem_mem hn
  generalize (cleanT ps now grace l).getD n bat0 = y at hm h1 h2 hp
  unfold cleanT at hm
  obtain ⟨hm1, hm2⟩ := List.mem_filter.1 hm
  obtain ⟨b, hb, rfl⟩ := List.mem_map.1 hm1
  simp only at h1 h2 hp hm2
  unfold kept at hk
  simp only [Bool.or_eq_false_iff, decide_eq_false_iff_not] at hk
  have hpr : x.pr = 0 := by have := hk.2; omega
  have hbp : b.pr = 0 := by omega
  cases hf : b.rs.filter (keepP ps now grace b) with
  | nil => rw [hf, hbp] at hm2; simp at hm2
  | cons r rest =>
    have hr : r ∈ b.rs.filter (keepP ps now grace b) := by rw [hf]; simp
    have hx := part_mem _ x.rs 0 (Nat.zero_le _) hp r (by rw [List.drop_zero]; exact hr)
    have hkr := (List.mem_filter.1 hr).2
    have e : keepP ps now grace x r = keepP ps now grace b r := by
      unfold keepP atS
      rw [h1]
    have : r ∈ x.rs.filter (keepP ps now grace x) := List.mem_filter.2 ⟨hx, by rw [e]; exact hkr⟩
    have h3 := hk.1
    cases hq : x.rs.filter (keepP ps now grace x) with
    | nil => rw [hq] at this; cases this
    | cons a b => rw [hq] at h3; simp at h3
end Go.Proofs.Ytikidcgnbcibpaa

/- Pieces of code by the layer, between pieces that are walked otherwise. -/

set_option linter.unusedSimpArgs false
set_option linter.unusedVariables false
set_option maxRecDepth 100000
set_option maxHeartbeats 4000000
namespace Go.Av

variable {P : Program} {w0 : World} {mu0 : Mem} {n : Nat} {Q : AEx → St → Prop} {st : St}
/-- A piece of code, from a state on. -/
def SW (P : Program) (w0 : World) (mu0 : Mem) (n : Nat) (c : Code) (Q : AEx → St → Prop) (st : St) : Prop :=
  ∀ g a w, Sim w0 mu0 Tc.none g st a w → st.n = n → c.wp P (Post w0 mu0 Tc.none n Q) a w
theorem SW.mono {c : Code} {Q' : AEx → St → Prop} (h : SW P w0 mu0 n c Q st) (hq : ∀ e st, Q e st → Q' e st) : SW P w0 mu0 n c Q' st := fun g a w hs hn => by
  refine wp_mono (h g a w hs hn) fun e a' w' hp => ?_
  cases e with
  | normal => obtain ⟨g', st', q1, q2, q3⟩ := hp; exact ⟨g', st', q1, q2, hq _ _ q3⟩
  | exit id => obtain ⟨g', st', q1, q2, q3⟩ := hp; exact ⟨g', st', q1, q2, hq _ _ q3⟩
  | ret => obtain ⟨g', st', q1, q2, q3⟩ := hp; exact ⟨g', st', q1, q2, hq _ _ q3⟩
  | goto l => exact hp
  | panic ch => exact hp
  | outgrown => exact hp
theorem SW.ac {R : Orc} (hR : R.ok P) {c : Code} {ac : AC} (hc : comp P n c = some ac) (h : awpR R ac Q st) : SW P w0 mu0 n c Q st := fun g a w hs hn =>
  awp_ok c ac Q g st a w hc hs hn (awpR_ok hR ac Q Q st (fun _ _ h => h) h)
theorem SW.seq {x y : Code} (h : SW P w0 mu0 n x (fun e st' => match e with | .normal => SW P w0 mu0 n y Q st' | e => Q e st') st) : SW P w0 mu0 n (x.seq y) Q st := fun g a w hs hn => by
  refine wp_seq (wp_mono (h g a w hs hn) fun e a' w' hp => ?_)
  cases e with
  | normal => obtain ⟨g', st', q1, q2, q3⟩ := hp; exact q3 g' a' w' q1 q2
  | exit id => exact hp
  | ret => exact hp
  | goto l => exact hp
  | panic ch => exact hp
  | outgrown => exact hp
theorem SW.block {id : Nat} {b : Code} (h : SW P w0 mu0 n b (fun e st' => match e with | .exit j => if j = id then Q .normal st' else Q (.exit j) st' | e => Q e st') st) : SW P w0 mu0 n (.block id b) Q st := fun g a w hs hn => by
  refine wp_block (wp_mono (h g a w hs hn) fun e a' w' hp => ?_)
  cases e with
  | normal => exact hp
  | exit id' =>
    simp only [Exit.inBlock]
    obtain ⟨g', st', q1, q2, q3⟩ := hp
    simp only [] at q3
    split
    · rename_i e; rw [if_pos e] at q3; exact ⟨g', st', q1, q2, q3⟩
    · rename_i e; rw [if_neg e] at q3; exact ⟨g', st', q1, q2, q3⟩
  | ret => exact hp
  | goto l => exact hp
  | panic ch => exact hp
  | outgrown => exact hp
theorem SW.loop {b : Code} {α : Type} (inv : α → Prop) (stOf : α → St) (meas : α → Nat) (a0 : α) (h0 : inv a0) (hw : Wk st (stOf a0))
    (h : ∀ x, inv x → SW P w0 mu0 n b (fun e st' => match e with | .normal => ∃ x', inv x' ∧ meas x' < meas x ∧ Wk st' (stOf x') | e => Q e st') (stOf x)) : SW P w0 mu0 n (.loop b) Q st := by
  intro g a w hs hn bd k cs
  have key : ∀ (m : Nat) (x : α) (g : Gh) (a : Act) (w : World), meas x = m → inv x → Sim w0 mu0 Tc.none g (stOf x) a w → (stOf x).n = n →
      ∃ e a' w', Post w0 mu0 Tc.none n Q e a' w' ∧ Arrives P (lone (bd.at a (.code b :: .inLoop b :: k)) cs w) bd k cs e a' w' := by
    intro m
    induction m using Nat.strongRecOn with
    | _ m ih =>
      intro x g a w hm hi h1 hn
      obtain ⟨e, a', w', hp, harr⟩ := h x hi g a w h1 hn bd (.inLoop b :: k) cs
      cases e with
      | normal =>
        obtain ⟨g', st', q1, q2, x', hi', hlt, hwk⟩ := hp
        obtain ⟨e2, a2, w2, r1, r2⟩ := ih (meas x') (by omega) x' g' a' w' rfl hi' (q1.wk hwk) (hwk.1.trans q2)
        exact ⟨e2, a2, w2, r1, .of_steps (Steps.trans harr (.one step_inLoop)) r2⟩
      | exit id => obtain ⟨g', st', q1, q2, q3⟩ := hp; exact ⟨.exit id, a', w', ⟨g', st', q1, q2, q3⟩, .pass (x := .inLoop b) rfl (fun _ _ => .inl (by simp)) harr⟩
      | ret => obtain ⟨g', st', q1, q2, q3⟩ := hp; exact ⟨.ret, a', w', ⟨g', st', q1, q2, q3⟩, .pass (x := .inLoop b) rfl (fun _ _ => .inl (by simp)) harr⟩
      | goto l => exact hp.elim
      | panic ch => exact hp.elim
      | outgrown => exact hp.elim
  obtain ⟨e, a', w', r1, r2⟩ := key (meas a0) a0 g a w rfl h0 (hs.wk hw) (hw.1.trans hn)
  exact ⟨e, a', w', r1, .of_steps (.one step_loop) r2⟩
theorem SW.seq_k {x y : Code} (h : ∀ K : St → Prop, (∀ st', SW P w0 mu0 n y Q st' → K st') → SW P w0 mu0 n x (fun e st' => match e with | .normal => K st' | e => Q e st') st) : SW P w0 mu0 n (x.seq y) Q st :=
  SW.seq (h (fun st' => SW P w0 mu0 n y Q st') (fun _ h => h))
theorem SW.hide {c : Code} (h : ∀ Q' : AEx → St → Prop, (∀ e st', Q e st' → Q' e st') → SW P w0 mu0 n c Q' st) : SW P w0 mu0 n c Q st := h Q (fun _ _ h => h)
/-- A list of a given length, letter by letter. -/
def Ex {α : Type} : Nat → (List α → Prop) → Prop
  | 0, p => p []
  | n + 1, p => ∃ v, Ex n fun l => p (v :: l)
theorem Ex.of {α : Type} : ∀ {n : Nat} {p : List α → Prop} (l : List α), l.length = n → p l → Ex n p
  | 0, p, l, h, hp => by
    have : l = [] := List.eq_nil_of_length_eq_zero h
    subst this; exact hp
  | n + 1, p, [], h, hp => by simp at h
  | n + 1, p, v :: l, h, hp => ⟨v, Ex.of (p := fun l => p (v :: l)) l (by simpa using h) hp⟩
/-- The frame, written out. -/
theorem Sim.lit {T : Tc} {g : Gh} {a : Act} {w : World} (h : Sim w0 mu0 T g st a w) (hn : st.n = n) : Ex n fun l => a = { tmps := l.toArray, defers := [] } := by
  refine Ex.of a.tmps.toList (by simp [h.size, hn]) ?_
  have := h.defers
  cases a
  simp only at this
  subst this
  simp
/-- Other temporaries. -/
theorem Sim.other {T : Tc} {g : Gh} {a a' : Act} {w : World} (h : Sim w0 mu0 T g st a w) (hs : a'.tmps.size = st.n) (hd : a'.defers = []) {sl : List (Nat × LV)}
    (hk : ∀ s, RepL g w s (lk sl s) (a'.tmps.getD s Go.undef)) : Sim w0 mu0 T g { st with sl := sl } a' w :=
  { size := hs, defers := hd, slots := hk, boxes := h.boxes, bxinj := h.bxinj, heap := h.heap, mem := h.mem, mem0 := h.mem0, mule := h.mule, ext := h.ext, okx := h.okx, xlt := h.xlt, blt := h.blt, bxx := h.bxx, okb := h.okb, pin := h.pin }
end Go.Av
