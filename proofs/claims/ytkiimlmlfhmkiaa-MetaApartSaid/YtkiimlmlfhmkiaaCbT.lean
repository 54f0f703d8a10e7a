import Derived.Test.YtkiimlmlfhmkiaaAvL3
import Derived.Test.YtkiimlmlfhmkiaaProg
import Derived.KernelRfl

set_option maxRecDepth 100000
namespace Go.Proofs.Ytkiimlmlfhmkiaa
open Go.Av
/-- bilander/bilanderlaw04.BatchPuts -/
def ac8 : AC :=
 (.seq
  (.reg [⟨(some 2), none, .box 6 (.t 0)⟩,
    ⟨(some 3), none, .box 6 (.t 1)⟩,
    ⟨(some 4), none, .mv (.c (.bool false))⟩])
  (.seq
   (.seq
    (.reg [⟨(some 9), none, .load (some 6) (.t 2)⟩,
      ⟨(some 10), none, .call 29 [(.t 9)]⟩,
      ⟨(some 11), none, .una .not (.t 10)⟩,
      ⟨(some 12), none, .take 11⟩,
      ⟨(some 13), (some (12, false)), .load (some 6) (.t 3)⟩,
      ⟨(some 14), (some (12, false)), .call 29 [(.t 13)]⟩,
      ⟨(some 15), (some (12, false)), .una .not (.t 14)⟩,
      ⟨(some 16), none, .pick (.t 12) (.c (.bool true)) (.t 15)⟩])
    (.cond (.t 16)
     (.seq
      (.reg [⟨(some 17), none, .call 30 []⟩,
        ⟨(some 4), none, .take 17⟩])
      .ret)
     .skip))
   (.seq
    (.reg [⟨(some 19), none, .load (some 6) (.t 2)⟩,
      ⟨(some 20), none, .call 31 [(.t 19)]⟩,
      ⟨(some 18), none, .take 20⟩,
      ⟨(some 21), none, .ext 18 0⟩,
      ⟨(some 22), none, .ext 18 1⟩,
      ⟨(some 5), none, .take 21⟩,
      ⟨(some 6), none, .take 22⟩])
    (.seq
     (.reg [⟨(some 24), none, .load (some 6) (.t 2)⟩,
       ⟨(some 25), none, .call 32 [(.t 24)]⟩,
       ⟨(some 23), none, .take 25⟩,
       ⟨(some 26), none, .ext 23 0⟩,
       ⟨(some 27), none, .ext 23 1⟩,
       ⟨(some 7), none, .take 26⟩,
       ⟨(some 8), none, .take 27⟩])
     (.seq
      (.dreg [] [⟨(some 28), none, .mv (.t 5)⟩,
        ⟨(some 29), none, .b2s (.t 28)⟩,
        ⟨(some 30), none, .mv (.t 7)⟩,
        ⟨(some 31), none, .b2s (.t 30)⟩,
        ⟨(some 32), none, .bin .eql (.t 29) (.t 31)⟩,
        ⟨(some 33), none, .mv (.t 32)⟩,
        ⟨(some 34), (some (33, true)), .mv (.t 6)⟩,
        ⟨(some 35), (some (33, true)), .mv (.t 8)⟩,
        ⟨(some 36), (some (33, true)), .bin .eql (.t 34) (.t 35)⟩,
        ⟨(some 37), none, .pick (.t 33) (.t 36) (.c (.bool false))⟩,
        ⟨(some 38), none, .mv (.t 37)⟩,
        ⟨(some 39), (some (38, true)), .load (some 6) (.t 2)⟩,
        ⟨(some 40), (some (38, true)), .call 33 [(.t 39)]⟩,
        ⟨(some 41), (some (38, true)), .mv (.t 8)⟩,
        ⟨(some 42), (some (38, true)), .bin .eql (.t 40) (.t 41)⟩,
        ⟨(some 43), none, .pick (.t 38) (.t 42) (.c (.bool false))⟩,
        ⟨(some 44), none, .mv (.t 43)⟩,
        ⟨(some 45), (some (44, true)), .load (some 6) (.t 2)⟩,
        ⟨(some 46), (some (44, true)), .load (some 6) (.t 3)⟩,
        ⟨(some 47), (some (44, true)), .call 34 [(.t 45), (.t 46)]⟩,
        ⟨(some 48), (some (44, true)), .load (some 6) (.t 2)⟩,
        ⟨(some 49), (some (44, true)), .load (some 6) (.t 3)⟩,
        ⟨(some 50), (some (44, true)), .call 35 [(.t 48), (.t 49)]⟩,
        ⟨(some 51), (some (44, true)), .beq false (.t 47) (.t 50)⟩,
        ⟨(some 52), none, .pick (.t 44) (.t 51) (.c (.bool false))⟩,
        ⟨(some 53), none, .mv (.t 52)⟩,
        ⟨(some 54), (some (53, true)), .call 30 []⟩,
        ⟨(some 55), none, .pick (.t 53) (.t 54) (.c (.bool false))⟩,
        ⟨(some 4), none, .take 55⟩])
      .ret)))))
def ar8 : List AR := [.t 4]
theorem comp8 : Try.f8.body.bind (comp Try.prog 56) = some ac8 := by kernel_rfl
theorem cres8 : compRes Try.prog Try.f8.results.toList = some ar8 := by kernel_rfl
/-- bilander/bilanderlaw04.BatchGets -/
def ac9 : AC :=
 (.seq
  (.reg [⟨(some 2), none, .mv (.c (.bool false))⟩])
  (.seq
   (.seq
    (.reg [⟨(some 7), none, .mv (.t 0)⟩,
      ⟨(some 8), none, .len false (.t 7)⟩,
      ⟨(some 9), none, .bin .gtr (.t 8) (.c (.int .i64 2000))⟩])
    (.cond (.t 9)
     (.seq
      (.reg [⟨(some 10), none, .call 30 []⟩,
        ⟨(some 2), none, .take 10⟩])
      .ret)
     .skip))
   (.seq
    (.reg [⟨(some 12), none, .mv (.t 0)⟩,
      ⟨(some 13), none, .call 36 [(.t 12)]⟩,
      ⟨(some 11), none, .take 13⟩,
      ⟨(some 14), none, .extS 11 0⟩,
      ⟨(some 15), none, .ext 11 1⟩,
      ⟨(some 3), none, .alloc [(.int .i64 0), (.int .i64 0), (.int .i64 0), (.int .i64 0), (.int .i64 0), .nils]⟩,
      ⟨none, none, .store 6 (.t 3) (.t 14)⟩,
      ⟨(some 4), none, .take 15⟩])
    (.seq
     (.reg [⟨(some 17), none, .mv (.t 0)⟩,
       ⟨(some 18), none, .call 37 [(.t 17)]⟩,
       ⟨(some 16), none, .take 18⟩,
       ⟨(some 19), none, .extS 16 0⟩,
       ⟨(some 20), none, .ext 16 1⟩,
       ⟨(some 5), none, .alloc [(.int .i64 0), (.int .i64 0), (.int .i64 0), (.int .i64 0), (.int .i64 0), .nils]⟩,
       ⟨none, none, .store 6 (.t 5) (.t 19)⟩,
       ⟨(some 6), none, .take 20⟩])
     (.seq
      (.reg [⟨(some 21), none, .load (some 6) (.t 3)⟩,
        ⟨(some 22), none, .load (some 6) (.t 5)⟩,
        ⟨(some 23), none, .call 35 [(.t 21), (.t 22)]⟩,
        ⟨(some 24), none, .take 23⟩,
        ⟨(some 25), (some (24, true)), .mv (.t 4)⟩,
        ⟨(some 26), (some (24, true)), .mv (.t 6)⟩,
        ⟨(some 27), (some (24, true)), .bin .eql (.t 25) (.t 26)⟩,
        ⟨(some 28), none, .pick (.t 24) (.t 27) (.c (.bool false))⟩,
        ⟨(some 29), none, .take 28⟩,
        ⟨(some 30), (some (29, true)), .call 30 []⟩,
        ⟨(some 31), none, .pick (.t 29) (.t 30) (.c (.bool false))⟩,
        ⟨(some 2), none, .take 31⟩])
      .ret)))))
def ar9 : List AR := [.t 2]
theorem comp9 : Try.f9.body.bind (comp Try.prog 32) = some ac9 := by kernel_rfl
theorem cres9 : compRes Try.prog Try.f9.results.toList = some ar9 := by kernel_rfl
/-- bilander/bilanderlaw04.BatchLooks -/
def ac10 : AC :=
 (.seq
  (.reg [⟨(some 2), none, .box 6 (.t 0)⟩,
    ⟨(some 4), none, .mv (.c (.bool false))⟩])
  (.seq
   (.seq
    (.reg [⟨(some 9), none, .load (some 6) (.t 2)⟩,
      ⟨(some 10), none, .call 29 [(.t 9)]⟩,
      ⟨(some 11), none, .una .not (.t 10)⟩,
      ⟨(some 12), none, .take 11⟩,
      ⟨(some 13), (some (12, false)), .load (some 6) (.t 2)⟩,
      ⟨(some 14), (some (12, false)), .call 38 [(.t 13)]⟩,
      ⟨(some 15), (some (12, false)), .bin .neq (.t 14) (.c (.int .i64 0))⟩,
      ⟨(some 16), none, .pick (.t 12) (.c (.bool true)) (.t 15)⟩])
    (.cond (.t 16)
     (.seq
      (.reg [⟨(some 17), none, .call 30 []⟩,
        ⟨(some 4), none, .take 17⟩])
      .ret)
     .skip))
   (.seq
    (.reg [⟨(some 19), none, .load (some 6) (.t 2)⟩,
      ⟨(some 20), none, .mv (.t 1)⟩,
      ⟨(some 21), none, .call 39 [(.t 19), (.t 20)]⟩,
      ⟨(some 18), none, .take 21⟩,
      ⟨(some 22), none, .extS 18 0⟩,
      ⟨(some 23), none, .ext 18 1⟩,
      ⟨(some 5), none, .alloc [(.int .i64 0), (.int .i64 0), (.bool false), (.str (ByteArray.mk #[])), (.bool false), (.str (ByteArray.mk #[]))]⟩,
      ⟨none, none, .store 6 (.t 5) (.t 22)⟩,
      ⟨(some 6), none, .take 23⟩])
    (.seq
     (.reg [⟨(some 25), none, .load (some 6) (.t 2)⟩,
       ⟨(some 26), none, .mv (.t 1)⟩,
       ⟨(some 27), none, .call 40 [(.t 25), (.t 26)]⟩,
       ⟨(some 24), none, .take 27⟩,
       ⟨(some 28), none, .extS 24 0⟩,
       ⟨(some 29), none, .ext 24 1⟩,
       ⟨(some 7), none, .alloc [(.int .i64 0), (.int .i64 0), (.bool false), (.str (ByteArray.mk #[])), (.bool false), (.str (ByteArray.mk #[]))]⟩,
       ⟨none, none, .store 6 (.t 7) (.t 28)⟩,
       ⟨(some 8), none, .take 29⟩])
     (.seq
      (.dreg [] [⟨(some 30), none, .load (some 6) (.t 2)⟩,
        ⟨(some 31), none, .call 41 [(.t 30)]⟩,
        ⟨(some 32), none, .load (some 6) (.t 2)⟩,
        ⟨(some 33), none, .call 42 [(.t 32)]⟩,
        ⟨(some 34), none, .bin .eql (.t 31) (.t 33)⟩,
        ⟨(some 35), none, .mv (.t 34)⟩,
        ⟨(some 36), (some (35, true)), .load (some 6) (.t 2)⟩,
        ⟨(some 37), (some (35, true)), .call 43 [(.t 36)]⟩,
        ⟨(some 38), (some (35, true)), .load (some 6) (.t 2)⟩,
        ⟨(some 39), (some (35, true)), .call 44 [(.t 38)]⟩,
        ⟨(some 40), (some (35, true)), .bin .eql (.t 37) (.t 39)⟩,
        ⟨(some 41), none, .pick (.t 35) (.t 40) (.c (.bool false))⟩,
        ⟨(some 42), none, .mv (.t 41)⟩,
        ⟨(some 43), (some (42, true)), .load (some 6) (.t 5)⟩,
        ⟨(some 44), (some (42, true)), .load (some 6) (.t 7)⟩,
        ⟨(some 45), (some (42, true)), .call 45 [(.t 43), (.t 44)]⟩,
        ⟨(some 46), none, .pick (.t 42) (.t 45) (.c (.bool false))⟩,
        ⟨(some 47), none, .mv (.t 46)⟩,
        ⟨(some 48), (some (47, true)), .mv (.t 6)⟩,
        ⟨(some 49), (some (47, true)), .mv (.t 8)⟩,
        ⟨(some 50), (some (47, true)), .beq false (.t 48) (.t 49)⟩,
        ⟨(some 51), none, .pick (.t 47) (.t 50) (.c (.bool false))⟩,
        ⟨(some 52), none, .mv (.t 51)⟩,
        ⟨(some 53), (some (52, true)), .load (some 6) (.t 2)⟩,
        ⟨(some 54), (some (52, true)), .mv (.t 1)⟩,
        ⟨(some 55), (some (52, true)), .call 47 [(.t 53), (.t 54)]⟩,
        ⟨(some 56), (some (52, true)), .load (some 6) (.t 2)⟩,
        ⟨(some 57), (some (52, true)), .mv (.t 1)⟩,
        ⟨(some 58), (some (52, true)), .call 48 [(.t 56), (.t 57)]⟩,
        ⟨(some 59), (some (52, true)), .call 46 [(.t 55), (.t 58)]⟩,
        ⟨(some 60), none, .pick (.t 52) (.t 59) (.c (.bool false))⟩,
        ⟨(some 61), none, .mv (.t 60)⟩,
        ⟨(some 62), (some (61, true)), .call 30 []⟩,
        ⟨(some 63), none, .pick (.t 61) (.t 62) (.c (.bool false))⟩,
        ⟨(some 4), none, .take 63⟩])
      .ret)))))
def ar10 : List AR := [.t 4]
theorem comp10 : Try.f10.body.bind (comp Try.prog 64) = some ac10 := by kernel_rfl
theorem cres10 : compRes Try.prog Try.f10.results.toList = some ar10 := by kernel_rfl
/-- bilander/bilanderlaw04.BatchBack -/
def ac11 : AC :=
 (.seq
  (.reg [⟨(some 1), none, .box 6 (.t 0)⟩,
    ⟨(some 2), none, .mv (.c (.bool false))⟩])
  (.seq
   (.seq
    (.reg [⟨(some 14), none, .load (some 6) (.t 1)⟩,
      ⟨(some 15), none, .call 29 [(.t 14)]⟩,
      ⟨(some 16), none, .una .not (.t 15)⟩])
    (.cond (.t 16)
     (.seq
      (.reg [⟨(some 17), none, .call 30 []⟩,
        ⟨(some 2), none, .take 17⟩])
      .ret)
     .skip))
   (.seq
    (.reg [⟨(some 19), none, .load (some 6) (.t 1)⟩,
      ⟨(some 20), none, .call 31 [(.t 19)]⟩,
      ⟨(some 18), none, .take 20⟩,
      ⟨(some 21), none, .ext 18 0⟩,
      ⟨(some 22), none, .ext 18 1⟩,
      ⟨(some 3), none, .take 21⟩,
      ⟨(some 4), none, .take 22⟩])
    (.seq
     (.seq
      (.reg [⟨(some 23), none, .mv (.t 4)⟩,
        ⟨(some 24), none, .bin .neq (.t 23) (.c (.int .i64 0))⟩])
      (.cond (.t 24)
       (.seq
        (.reg [⟨(some 25), none, .mv (.t 3)⟩,
          ⟨(some 26), none, .len false (.t 25)⟩,
          ⟨(some 27), none, .bin .eql (.t 26) (.c (.int .i64 0))⟩,
          ⟨(some 28), none, .take 27⟩,
          ⟨(some 29), (some (28, true)), .mv (.t 4)⟩,
          ⟨(some 30), (some (28, true)), .load (some 6) (.t 1)⟩,
          ⟨(some 31), (some (28, true)), .call 33 [(.t 30)]⟩,
          ⟨(some 32), (some (28, true)), .bin .eql (.t 29) (.t 31)⟩,
          ⟨(some 33), none, .pick (.t 28) (.t 32) (.c (.bool false))⟩,
          ⟨(some 34), none, .take 33⟩,
          ⟨(some 35), (some (34, true)), .call 30 []⟩,
          ⟨(some 36), none, .pick (.t 34) (.t 35) (.c (.bool false))⟩,
          ⟨(some 2), none, .take 36⟩])
        .ret)
       .skip))
     (.seq
      (.seq
       (.reg [⟨(some 37), none, .mv (.t 3)⟩,
         ⟨(some 38), none, .len false (.t 37)⟩,
         ⟨(some 39), none, .bin .eql (.t 38) (.c (.int .i64 0))⟩])
       (.cond (.t 39)
        (.seq
         (.reg [⟨(some 2), none, .mv (.c (.bool false))⟩])
         .ret)
        .skip))
      (.seq
       (.reg [⟨(some 41), none, .mv (.t 3)⟩,
         ⟨(some 42), none, .call 36 [(.t 41)]⟩,
         ⟨(some 40), none, .take 42⟩,
         ⟨(some 43), none, .extS 40 0⟩,
         ⟨(some 44), none, .ext 40 1⟩,
         ⟨(some 5), none, .alloc [(.int .i64 0), (.int .i64 0), (.int .i64 0), (.int .i64 0), (.int .i64 0), .nils]⟩,
         ⟨none, none, .store 6 (.t 5) (.t 43)⟩,
         ⟨(some 6), none, .take 44⟩])
       (.seq
        (.reg [⟨(some 46), none, .bsl 1 0 [(.int .u8 0)] []⟩,
          ⟨(some 47), none, .mv (.t 3)⟩,
          ⟨(some 48), none, .app 1 1 46 (.t 47)⟩,
          ⟨(some 49), none, .bsl 1 1 [(.int .u8 0)] [(0, (.c (.int .u8 0)))]⟩,
          ⟨(some 50), none, .app 1 1 48 (.t 49)⟩,
          ⟨(some 51), none, .call 36 [(.t 50)]⟩,
          ⟨(some 45), none, .take 51⟩,
          ⟨(some 52), none, .extS 45 0⟩,
          ⟨(some 53), none, .ext 45 1⟩,
          ⟨(some 7), none, .alloc [(.int .i64 0), (.int .i64 0), (.int .i64 0), (.int .i64 0), (.int .i64 0), .nils]⟩,
          ⟨none, none, .store 6 (.t 7) (.t 52)⟩,
          ⟨(some 8), none, .take 53⟩])
        (.seq
         (.reg [⟨(some 55), none, .mv (.t 3)⟩,
           ⟨(some 56), none, .mv (.t 3)⟩,
           ⟨(some 57), none, .len false (.t 56)⟩,
           ⟨(some 58), none, .bin .sub (.t 57) (.c (.int .i64 1))⟩,
           ⟨(some 59), none, .slc false 1 (.t 55) none (some (.t 58))⟩,
           ⟨(some 60), none, .call 36 [(.t 59)]⟩,
           ⟨(some 54), none, .take 60⟩,
           ⟨(some 61), none, .extS 54 0⟩,
           ⟨(some 62), none, .ext 54 1⟩,
           ⟨(some 9), none, .alloc [(.int .i64 0), (.int .i64 0), (.int .i64 0), (.int .i64 0), (.int .i64 0), .nils]⟩,
           ⟨none, none, .store 6 (.t 9) (.t 61)⟩,
           ⟨(some 10), none, .take 62⟩])
         (.seq
          (.reg [⟨(some 63), none, .faddr (.t 1) 0⟩,
            ⟨(some 64), none, .load none (.t 63)⟩,
            ⟨(some 65), none, .bin .sub (.t 64) (.c (.int .i64 1))⟩,
            ⟨(some 11), none, .take 65⟩])
          (.seq
           (.seq
            (.reg [⟨(some 12), none, .mv (.c (.int .i64 0))⟩])
            (.block 0
             (.loop
              (.seq
               (.seq
                (.reg [⟨(some 66), none, .mv (.t 12)⟩,
                  ⟨(some 67), none, .faddr (.t 1) 5⟩,
                  ⟨(some 68), none, .load none (.t 67)⟩,
                  ⟨(some 69), none, .len false (.t 68)⟩,
                  ⟨(some 70), none, .bin .lss (.t 66) (.t 69)⟩])
                (.cond (.t 70)
                 .skip
                 (.exit 0)))
               (.seq
                (.block 1
                 (.seq
                  (.dreg [] [⟨(some 73), none, .faddr (.t 1) 0⟩,
                    ⟨(some 74), none, .load none (.t 73)⟩,
                    ⟨(some 75), none, .faddr (.t 1) 5⟩,
                    ⟨(some 76), none, .load none (.t 75)⟩,
                    ⟨(some 77), none, .mv (.t 12)⟩,
                    ⟨(some 78), none, .iaddr 6 (.t 76) (.t 77)⟩,
                    ⟨(some 79), none, .faddr (.t 78) 0⟩,
                    ⟨(some 80), none, .load none (.t 79)⟩,
                    ⟨(some 81), none, .bin .add (.t 74) (.t 80)⟩,
                    ⟨(some 13), none, .take 81⟩])
                  (.seq
                   (.seq
                    (.reg [⟨(some 82), none, .mv (.t 13)⟩,
                      ⟨(some 83), none, .mv (.t 11)⟩,
                      ⟨(some 84), none, .bin .leq (.t 82) (.t 83)⟩,
                      ⟨(some 85), none, .take 84⟩,
                      ⟨(some 86), (some (85, false)), .mv (.t 13)⟩,
                      ⟨(some 87), (some (85, false)), .load (some 6) (.t 1)⟩,
                      ⟨(some 88), (some (85, false)), .call 41 [(.t 87)]⟩,
                      ⟨(some 89), (some (85, false)), .bin .geq (.t 86) (.t 88)⟩,
                      ⟨(some 90), none, .pick (.t 85) (.c (.bool true)) (.t 89)⟩])
                    (.cond (.t 90)
                     (.seq
                      (.reg [⟨(some 2), none, .mv (.c (.bool false))⟩])
                      .ret)
                     .skip))
                   (.reg [⟨(some 91), none, .take 13⟩,
                     ⟨(some 11), none, .take 91⟩]))))
                (.reg [⟨(some 71), none, .take 12⟩,
                  ⟨(some 72), none, .bin .add (.t 71) (.c (.int .i64 1))⟩,
                  ⟨(some 12), none, .take 72⟩]))))))
           (.seq
            (.reg [⟨(some 92), none, .mv (.t 6)⟩,
              ⟨(some 93), none, .bin .eql (.t 92) (.c (.int .i64 0))⟩,
              ⟨(some 94), none, .take 93⟩,
              ⟨(some 95), (some (94, true)), .load (some 6) (.t 1)⟩,
              ⟨(some 96), (some (94, true)), .load (some 6) (.t 5)⟩,
              ⟨(some 97), (some (94, true)), .call 34 [(.t 95), (.t 96)]⟩,
              ⟨(some 98), none, .pick (.t 94) (.t 97) (.c (.bool false))⟩,
              ⟨(some 99), none, .take 98⟩,
              ⟨(some 100), (some (99, true)), .mv (.t 8)⟩,
              ⟨(some 101), (some (99, true)), .bin .eql (.t 100) (.c (.int .i64 4))⟩,
              ⟨(some 102), none, .pick (.t 99) (.t 101) (.c (.bool false))⟩,
              ⟨(some 103), none, .take 102⟩,
              ⟨(some 104), (some (103, true)), .mv (.t 10)⟩,
              ⟨(some 105), (some (103, true)), .bin .eql (.t 104) (.c (.int .i64 4))⟩,
              ⟨(some 106), none, .pick (.t 103) (.t 105) (.c (.bool false))⟩,
              ⟨(some 107), none, .take 106⟩,
              ⟨(some 108), (some (107, true)), .call 30 []⟩,
              ⟨(some 109), none, .pick (.t 107) (.t 108) (.c (.bool false))⟩,
              ⟨(some 2), none, .take 109⟩])
            .ret)))))))))))
def ar11 : List AR := [.t 2]
theorem comp11 : Try.f11.body.bind (comp Try.prog 110) = some ac11 := by kernel_rfl
theorem cres11 : compRes Try.prog Try.f11.results.toList = some ar11 := by kernel_rfl
/-- bilander/bilanderlaw04.BatchFrom -/
def ac12 : AC :=
 (.seq
  (.reg [⟨(some 2), none, .box 6 (.t 0)⟩,
    ⟨(some 4), none, .mv (.c (.bool false))⟩])
  (.seq
   (.seq
    (.reg [⟨(some 11), none, .load (some 6) (.t 2)⟩,
      ⟨(some 12), none, .call 29 [(.t 11)]⟩,
      ⟨(some 13), none, .una .not (.t 12)⟩,
      ⟨(some 14), none, .take 13⟩,
      ⟨(some 15), (some (14, false)), .load (some 6) (.t 2)⟩,
      ⟨(some 16), (some (14, false)), .call 33 [(.t 15)]⟩,
      ⟨(some 17), (some (14, false)), .bin .neq (.t 16) (.c (.int .i64 0))⟩,
      ⟨(some 18), none, .pick (.t 14) (.c (.bool true)) (.t 17)⟩])
    (.cond (.t 18)
     (.seq
      (.reg [⟨(some 19), none, .call 30 []⟩,
        ⟨(some 4), none, .take 19⟩])
      .ret)
     .skip))
   (.seq
    (.reg [⟨(some 20), none, .load (some 6) (.t 2)⟩,
      ⟨(some 21), none, .mv (.t 1)⟩,
      ⟨(some 22), none, .call 47 [(.t 20), (.t 21)]⟩,
      ⟨(some 5), none, .take 22⟩])
    (.seq
     (.reg [⟨(some 23), none, .faddr (.t 2) 5⟩,
       ⟨(some 24), none, .load none (.t 23)⟩,
       ⟨(some 25), none, .len false (.t 24)⟩,
       ⟨(some 26), none, .mv (.t 5)⟩,
       ⟨(some 27), none, .len false (.t 26)⟩,
       ⟨(some 28), none, .bin .sub (.t 25) (.t 27)⟩,
       ⟨(some 6), none, .take 28⟩])
     (.seq
      (.seq
       (.reg [⟨(some 29), none, .mv (.t 6)⟩,
         ⟨(some 30), none, .bin .lss (.t 29) (.c (.int .i64 0))⟩])
       (.cond (.t 30)
        (.seq
         (.reg [⟨(some 4), none, .mv (.c (.bool false))⟩])
         .ret)
        .skip))
      (.seq
       (.seq
        (.reg [⟨(some 7), none, .mv (.c (.int .i64 0))⟩])
        (.block 0
         (.loop
          (.seq
           (.seq
            (.reg [⟨(some 31), none, .mv (.t 7)⟩,
              ⟨(some 32), none, .faddr (.t 2) 5⟩,
              ⟨(some 33), none, .load none (.t 32)⟩,
              ⟨(some 34), none, .len false (.t 33)⟩,
              ⟨(some 35), none, .bin .lss (.t 31) (.t 34)⟩])
            (.cond (.t 35)
             .skip
             (.exit 0)))
           (.seq
            (.block 1
             (.seq
              (.dreg [] [⟨(some 38), none, .faddr (.t 2) 0⟩,
                ⟨(some 39), none, .load none (.t 38)⟩,
                ⟨(some 40), none, .faddr (.t 2) 5⟩,
                ⟨(some 41), none, .load none (.t 40)⟩,
                ⟨(some 42), none, .mv (.t 7)⟩,
                ⟨(some 43), none, .iaddr 6 (.t 41) (.t 42)⟩,
                ⟨(some 44), none, .faddr (.t 43) 0⟩,
                ⟨(some 45), none, .load none (.t 44)⟩,
                ⟨(some 46), none, .bin .add (.t 39) (.t 45)⟩,
                ⟨(some 8), none, .take 46⟩])
              (.seq
               (.dreg [] [⟨(some 47), none, .mv (.t 7)⟩,
                 ⟨(some 48), none, .mv (.t 6)⟩,
                 ⟨(some 49), none, .bin .geq (.t 47) (.t 48)⟩,
                 ⟨(some 50), none, .mv (.t 8)⟩,
                 ⟨(some 51), none, .mv (.t 1)⟩,
                 ⟨(some 52), none, .bin .geq (.t 50) (.t 51)⟩,
                 ⟨(some 53), none, .beq true (.t 49) (.t 52)⟩,
                 ⟨(some 54), none, .mv (.t 53)⟩,
                 ⟨(some 55), (some (54, false)), .mv (.t 7)⟩,
                 ⟨(some 56), (some (54, false)), .mv (.t 6)⟩,
                 ⟨(some 57), (some (54, false)), .bin .geq (.t 55) (.t 56)⟩,
                 ⟨(some 58), (some (54, false)), .mv (.t 57)⟩,
                 ⟨(some 59), (some (58, true)), .mv (.t 5)⟩,
                 ⟨(some 60), (some (58, true)), .mv (.t 7)⟩,
                 ⟨(some 61), (some (58, true)), .mv (.t 6)⟩,
                 ⟨(some 62), (some (58, true)), .bin .sub (.t 60) (.t 61)⟩,
                 ⟨(some 63), (some (58, true)), .iaddr 6 (.t 59) (.t 62)⟩,
                 ⟨(some 64), (some (58, true)), .load (some 6) (.t 63)⟩,
                 ⟨(some 65), (some (58, true)), .faddr (.t 2) 5⟩,
                 ⟨(some 66), (some (58, true)), .load none (.t 65)⟩,
                 ⟨(some 67), (some (58, true)), .mv (.t 7)⟩,
                 ⟨(some 68), (some (58, true)), .iaddr 6 (.t 66) (.t 67)⟩,
                 ⟨(some 69), (some (58, true)), .load (some 6) (.t 68)⟩,
                 ⟨(some 70), (some (58, true)), .eqs [1, 1, 0, 2, 0, 2] true (.t 64) (.t 69)⟩,
                 ⟨(some 71), (some (54, false)), .pick (.t 58) (.t 70) (.c (.bool false))⟩,
                 ⟨(some 72), none, .pick (.t 54) (.c (.bool true)) (.t 71)⟩])
               (.cond (.t 72)
                (.seq
                 (.reg [⟨(some 4), none, .mv (.c (.bool false))⟩])
                 .ret)
                .skip))))
            (.reg [⟨(some 36), none, .take 7⟩,
              ⟨(some 37), none, .bin .add (.t 36) (.c (.int .i64 1))⟩,
              ⟨(some 7), none, .take 37⟩]))))))
       (.seq
        (.reg [⟨(some 74), none, .load (some 6) (.t 2)⟩,
          ⟨(some 75), none, .mv (.t 1)⟩,
          ⟨(some 76), none, .call 39 [(.t 74), (.t 75)]⟩,
          ⟨(some 73), none, .take 76⟩,
          ⟨(some 77), none, .extS 73 0⟩,
          ⟨(some 78), none, .ext 73 1⟩,
          ⟨(some 9), none, .alloc [(.int .i64 0), (.int .i64 0), (.bool false), (.str (ByteArray.mk #[])), (.bool false), (.str (ByteArray.mk #[]))]⟩,
          ⟨none, none, .store 6 (.t 9) (.t 77)⟩,
          ⟨(some 10), none, .take 78⟩])
        (.seq
         (.dreg [] [⟨(some 79), none, .mv (.t 10)⟩,
           ⟨(some 80), none, .mv (.t 5)⟩,
           ⟨(some 81), none, .len false (.t 80)⟩,
           ⟨(some 82), none, .bin .gtr (.t 81) (.c (.int .i64 0))⟩,
           ⟨(some 83), none, .mv (.t 82)⟩,
           ⟨(some 84), (some (83, true)), .faddr (.t 2) 0⟩,
           ⟨(some 85), (some (83, true)), .load none (.t 84)⟩,
           ⟨(some 86), (some (83, true)), .mv (.t 5)⟩,
           ⟨(some 87), (some (83, true)), .iaddr 6 (.t 86) (.c (.int .i64 0))⟩,
           ⟨(some 88), (some (83, true)), .faddr (.t 87) 0⟩,
           ⟨(some 89), (some (83, true)), .load none (.t 88)⟩,
           ⟨(some 90), (some (83, true)), .bin .add (.t 85) (.t 89)⟩,
           ⟨(some 91), (some (83, true)), .mv (.t 1)⟩,
           ⟨(some 92), (some (83, true)), .bin .eql (.t 90) (.t 91)⟩,
           ⟨(some 93), none, .pick (.t 83) (.t 92) (.c (.bool false))⟩,
           ⟨(some 94), none, .beq false (.t 79) (.t 93)⟩,
           ⟨(some 95), none, .mv (.t 94)⟩,
           ⟨(some 96), (some (95, true)), .mv (.t 10)⟩,
           ⟨(some 97), (some (95, true)), .una .not (.t 96)⟩,
           ⟨(some 98), (some (95, true)), .mv (.t 97)⟩,
           ⟨(some 99), (some (98, false)), .load (some 6) (.t 9)⟩,
           ⟨(some 100), (some (98, false)), .mv (.t 5)⟩,
           ⟨(some 101), (some (98, false)), .iaddr 6 (.t 100) (.c (.int .i64 0))⟩,
           ⟨(some 102), (some (98, false)), .load (some 6) (.t 101)⟩,
           ⟨(some 103), (some (98, false)), .eqs [1, 1, 0, 2, 0, 2] false (.t 99) (.t 102)⟩,
           ⟨(some 104), (some (95, true)), .pick (.t 98) (.c (.bool true)) (.t 103)⟩,
           ⟨(some 105), none, .pick (.t 95) (.t 104) (.c (.bool false))⟩,
           ⟨(some 106), none, .mv (.t 105)⟩,
           ⟨(some 107), (some (106, true)), .call 30 []⟩,
           ⟨(some 108), none, .pick (.t 106) (.t 107) (.c (.bool false))⟩,
           ⟨(some 4), none, .take 108⟩])
         .ret))))))))
def ar12 : List AR := [.t 4]
theorem comp12 : Try.f12.body.bind (comp Try.prog 109) = some ac12 := by kernel_rfl
theorem cres12 : compRes Try.prog Try.f12.results.toList = some ar12 := by kernel_rfl
/-- bilander/bilanderlaw04.BatchApart -/
def ac13 : AC :=
 (.seq
  (.reg [⟨(some 2), none, .box 6 (.t 0)⟩,
    ⟨(some 3), none, .box 6 (.t 1)⟩,
    ⟨(some 4), none, .mv (.c (.bool false))⟩])
  (.seq
   (.seq
    (.reg [⟨(some 9), none, .load (some 6) (.t 2)⟩,
      ⟨(some 10), none, .call 29 [(.t 9)]⟩,
      ⟨(some 11), none, .una .not (.t 10)⟩,
      ⟨(some 12), none, .take 11⟩,
      ⟨(some 13), (some (12, false)), .load (some 6) (.t 3)⟩,
      ⟨(some 14), (some (12, false)), .call 29 [(.t 13)]⟩,
      ⟨(some 15), (some (12, false)), .una .not (.t 14)⟩,
      ⟨(some 16), none, .pick (.t 12) (.c (.bool true)) (.t 15)⟩,
      ⟨(some 17), none, .take 16⟩,
      ⟨(some 18), (some (17, false)), .load (some 6) (.t 2)⟩,
      ⟨(some 19), (some (17, false)), .call 33 [(.t 18)]⟩,
      ⟨(some 20), (some (17, false)), .bin .neq (.t 19) (.c (.int .i64 0))⟩,
      ⟨(some 21), none, .pick (.t 17) (.c (.bool true)) (.t 20)⟩,
      ⟨(some 22), none, .take 21⟩,
      ⟨(some 23), (some (22, false)), .load (some 6) (.t 3)⟩,
      ⟨(some 24), (some (22, false)), .call 33 [(.t 23)]⟩,
      ⟨(some 25), (some (22, false)), .bin .neq (.t 24) (.c (.int .i64 0))⟩,
      ⟨(some 26), none, .pick (.t 22) (.c (.bool true)) (.t 25)⟩])
    (.cond (.t 26)
     (.seq
      (.reg [⟨(some 27), none, .call 30 []⟩,
        ⟨(some 4), none, .take 27⟩])
      .ret)
     .skip))
   (.seq
    (.reg [⟨(some 29), none, .load (some 6) (.t 2)⟩,
      ⟨(some 30), none, .call 31 [(.t 29)]⟩,
      ⟨(some 28), none, .take 30⟩,
      ⟨(some 31), none, .ext 28 0⟩,
      ⟨(some 32), none, .ext 28 1⟩,
      ⟨(some 5), none, .take 31⟩,
      ⟨(some 6), none, .take 32⟩])
    (.seq
     (.reg [⟨(some 34), none, .load (some 6) (.t 3)⟩,
       ⟨(some 35), none, .call 31 [(.t 34)]⟩,
       ⟨(some 33), none, .take 35⟩,
       ⟨(some 36), none, .ext 33 0⟩,
       ⟨(some 37), none, .ext 33 1⟩,
       ⟨(some 7), none, .take 36⟩,
       ⟨(some 8), none, .take 37⟩])
     (.seq
      (.dreg [] [⟨(some 38), none, .mv (.t 6)⟩,
        ⟨(some 39), none, .bin .eql (.t 38) (.c (.int .i64 0))⟩,
        ⟨(some 40), none, .mv (.t 39)⟩,
        ⟨(some 41), (some (40, true)), .mv (.t 8)⟩,
        ⟨(some 42), (some (40, true)), .bin .eql (.t 41) (.c (.int .i64 0))⟩,
        ⟨(some 43), none, .pick (.t 40) (.t 42) (.c (.bool false))⟩,
        ⟨(some 44), none, .mv (.t 43)⟩,
        ⟨(some 45), (some (44, true)), .mv (.t 5)⟩,
        ⟨(some 46), (some (44, true)), .b2s (.t 45)⟩,
        ⟨(some 47), (some (44, true)), .mv (.t 7)⟩,
        ⟨(some 48), (some (44, true)), .b2s (.t 47)⟩,
        ⟨(some 49), (some (44, true)), .bin .eql (.t 46) (.t 48)⟩,
        ⟨(some 50), (some (44, true)), .load (some 6) (.t 2)⟩,
        ⟨(some 51), (some (44, true)), .load (some 6) (.t 3)⟩,
        ⟨(some 52), (some (44, true)), .call 34 [(.t 50), (.t 51)]⟩,
        ⟨(some 53), (some (44, true)), .beq false (.t 49) (.t 52)⟩,
        ⟨(some 54), none, .pick (.t 44) (.t 53) (.c (.bool false))⟩,
        ⟨(some 55), none, .mv (.t 54)⟩,
        ⟨(some 56), (some (55, true)), .call 30 []⟩,
        ⟨(some 57), none, .pick (.t 55) (.t 56) (.c (.bool false))⟩,
        ⟨(some 4), none, .take 57⟩])
      .ret)))))
def ar13 : List AR := [.t 4]
theorem comp13 : Try.f13.body.bind (comp Try.prog 58) = some ac13 := by kernel_rfl
theorem cres13 : compRes Try.prog Try.f13.results.toList = some ar13 := by kernel_rfl
/-- bilander/bilanderlaw04.awake -/
def ac30 : AC :=
 (.seq
  (.reg [⟨(some 0), none, .mv (.c (.bool false))⟩])
  (.seq
   (.reg [⟨(some 8), none, .build [(.int .i64 0), (.int .i64 0), (.bool false), (.str (ByteArray.mk #[])), (.bool false), (.str (ByteArray.mk #[]))] [(5, 1, (.c (.str (ByteArray.mk #[118]))))]⟩,
     ⟨(some 9), none, .bsl 6 1 [(.int .i64 0), (.int .i64 0), (.bool false), (.str (ByteArray.mk #[])), (.bool false), (.str (ByteArray.mk #[]))] [(0, (.t 8))]⟩,
     ⟨(some 10), none, .build [(.int .i64 0), (.int .i64 0), (.int .i64 0), (.int .i64 0), (.int .i64 0), .nils] [(0, 1, (.c (.int .i64 5))), (1, 1, (.c (.int .i64 1))), (5, 1, (.t 9))]⟩,
     ⟨(some 1), none, .alloc [(.int .i64 0), (.int .i64 0), (.int .i64 0), (.int .i64 0), (.int .i64 0), .nils]⟩,
     ⟨none, none, .store 6 (.t 1) (.t 10)⟩])
   (.seq
    (.reg [⟨(some 12), none, .load (some 6) (.t 1)⟩,
      ⟨(some 13), none, .call 31 [(.t 12)]⟩,
      ⟨(some 11), none, .take 13⟩,
      ⟨(some 14), none, .ext 11 0⟩,
      ⟨(some 15), none, .ext 11 1⟩,
      ⟨(some 2), none, .take 14⟩,
      ⟨(some 3), none, .take 15⟩])
    (.seq
     (.reg [⟨(some 17), none, .mv (.t 2)⟩,
       ⟨(some 18), none, .call 36 [(.t 17)]⟩,
       ⟨(some 16), none, .take 18⟩,
       ⟨(some 19), none, .extS 16 0⟩,
       ⟨(some 20), none, .ext 16 1⟩,
       ⟨(some 4), none, .alloc [(.int .i64 0), (.int .i64 0), (.int .i64 0), (.int .i64 0), (.int .i64 0), .nils]⟩,
       ⟨none, none, .store 6 (.t 4) (.t 19)⟩,
       ⟨(some 5), none, .take 20⟩])
     (.seq
      (.reg [⟨(some 22), none, .load (some 6) (.t 1)⟩,
        ⟨(some 23), none, .call 39 [(.t 22), (.c (.int .i64 5))]⟩,
        ⟨(some 21), none, .take 23⟩,
        ⟨(some 24), none, .extS 21 0⟩,
        ⟨(some 25), none, .ext 21 1⟩,
        ⟨(some 6), none, .alloc [(.int .i64 0), (.int .i64 0), (.bool false), (.str (ByteArray.mk #[])), (.bool false), (.str (ByteArray.mk #[]))]⟩,
        ⟨none, none, .store 6 (.t 6) (.t 24)⟩,
        ⟨(some 7), none, .take 25⟩])
      (.seq
       (.reg [⟨(some 26), none, .mv (.t 3)⟩,
         ⟨(some 27), none, .bin .eql (.t 26) (.c (.int .i64 0))⟩,
         ⟨(some 28), none, .take 27⟩,
         ⟨(some 29), (some (28, true)), .mv (.t 5)⟩,
         ⟨(some 30), (some (28, true)), .bin .eql (.t 29) (.c (.int .i64 0))⟩,
         ⟨(some 31), none, .pick (.t 28) (.t 30) (.c (.bool false))⟩,
         ⟨(some 32), none, .take 31⟩,
         ⟨(some 33), (some (32, true)), .mv (.t 7)⟩,
         ⟨(some 34), none, .pick (.t 32) (.t 33) (.c (.bool false))⟩,
         ⟨(some 35), none, .take 34⟩,
         ⟨(some 36), (some (35, true)), .faddr (.t 6) 5⟩,
         ⟨(some 37), (some (35, true)), .load none (.t 36)⟩,
         ⟨(some 38), (some (35, true)), .bin .eql (.t 37) (.c (.str (ByteArray.mk #[118])))⟩,
         ⟨(some 39), none, .pick (.t 35) (.t 38) (.c (.bool false))⟩,
         ⟨(some 40), none, .take 39⟩,
         ⟨(some 41), (some (40, true)), .mv (.t 2)⟩,
         ⟨(some 42), (some (40, true)), .b2s (.t 41)⟩,
         ⟨(some 43), (some (40, true)), .bin .eql (.t 42) (.c (.str (ByteArray.mk #[10, 2, 0, 0, 0, 2, 0, 0, 0, 2, 118])))⟩,
         ⟨(some 44), none, .pick (.t 40) (.t 43) (.c (.bool false))⟩,
         ⟨(some 45), none, .take 44⟩,
         ⟨(some 46), (some (45, true)), .load (some 6) (.t 1)⟩,
         ⟨(some 47), (some (45, true)), .load (some 6) (.t 4)⟩,
         ⟨(some 48), (some (45, true)), .call 34 [(.t 46), (.t 47)]⟩,
         ⟨(some 49), none, .pick (.t 45) (.t 48) (.c (.bool false))⟩,
         ⟨(some 50), none, .take 49⟩,
         ⟨(some 51), (some (50, true)), .load (some 6) (.t 1)⟩,
         ⟨(some 52), (some (50, true)), .call 41 [(.t 51)]⟩,
         ⟨(some 53), (some (50, true)), .bin .eql (.t 52) (.c (.int .i64 6))⟩,
         ⟨(some 54), none, .pick (.t 50) (.t 53) (.c (.bool false))⟩,
         ⟨(some 55), none, .take 54⟩,
         ⟨(some 56), (some (55, true)), .load (some 6) (.t 1)⟩,
         ⟨(some 57), (some (55, true)), .call 43 [(.t 56)]⟩,
         ⟨(some 58), (some (55, true)), .bin .eql (.t 57) (.c (.int .i64 0))⟩,
         ⟨(some 59), none, .pick (.t 55) (.t 58) (.c (.bool false))⟩,
         ⟨(some 60), none, .take 59⟩,
         ⟨(some 61), (some (60, true)), .build [(.int .i64 0), (.int .i64 0), (.int .i64 0), (.int .i64 0), (.int .i64 0), .nils] []⟩,
         ⟨(some 62), (some (60, true)), .call 43 [(.t 61)]⟩,
         ⟨(some 63), (some (60, true)), .bin .eql (.t 62) (.c (.int .i64 (-1)))⟩,
         ⟨(some 64), none, .pick (.t 60) (.t 63) (.c (.bool false))⟩,
         ⟨(some 65), none, .take 64⟩,
         ⟨(some 66), (some (65, true)), .load (some 6) (.t 1)⟩,
         ⟨(some 67), (some (65, true)), .call 47 [(.t 66), (.c (.int .i64 6))]⟩,
         ⟨(some 68), (some (65, true)), .len false (.t 67)⟩,
         ⟨(some 69), (some (65, true)), .bin .eql (.t 68) (.c (.int .i64 0))⟩,
         ⟨(some 70), none, .pick (.t 65) (.t 69) (.c (.bool false))⟩,
         ⟨(some 71), none, .take 70⟩,
         ⟨(some 72), none, .pick (.t 71) (.c (.bool true)) (.c (.bool false))⟩,
         ⟨(some 73), none, .take 72⟩,
         ⟨(some 74), none, .pick (.t 73) (.c (.bool true)) (.c (.bool false))⟩,
         ⟨(some 75), none, .take 74⟩,
         ⟨(some 76), none, .pick (.t 75) (.c (.bool true)) (.c (.bool false))⟩,
         ⟨(some 77), none, .take 76⟩,
         ⟨(some 78), none, .pick (.t 77) (.c (.bool true)) (.c (.bool false))⟩,
         ⟨(some 79), none, .take 78⟩,
         ⟨(some 80), none, .pick (.t 79) (.c (.bool true)) (.c (.bool false))⟩,
         ⟨(some 81), none, .take 80⟩,
         ⟨(some 82), none, .pick (.t 81) (.c (.bool true)) (.c (.bool false))⟩,
         ⟨(some 83), none, .take 82⟩,
         ⟨(some 84), none, .pick (.t 83) (.c (.bool true)) (.c (.bool false))⟩,
         ⟨(some 85), none, .take 84⟩,
         ⟨(some 86), none, .pick (.t 85) (.c (.bool true)) (.c (.bool false))⟩,
         ⟨(some 0), none, .take 86⟩])
       .ret))))))
def ar30 : List AR := [.t 0]
theorem comp30 : Try.f30.body.bind (comp Try.prog 87) = some ac30 := by kernel_rfl
theorem cres30 : compRes Try.prog Try.f30.results.toList = some ar30 := by kernel_rfl
end Go.Proofs.Ytkiimlmlfhmkiaa
