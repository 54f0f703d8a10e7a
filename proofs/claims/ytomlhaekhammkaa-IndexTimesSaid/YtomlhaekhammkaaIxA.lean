import Derived.Test.YtomlhaekhammkaaAvRf
import Derived.Test.YtomlhaekhammkaaProg
import Derived.KernelRfl

set_option maxRecDepth 100000
namespace Go.Proofs.Ytomlhaekhammkaa
open Go.Av
/-- bilander/bilanderlaw12.IndexAdds -/
def ac7 : AC :=
 (.seq
  (.reg [⟨(some 3), none, .box 3 (.t 0)⟩,
    ⟨(some 4), none, .box 3 (.t 1)⟩,
    ⟨(some 5), none, .box 3 (.t 2)⟩,
    ⟨(some 6), none, .mv (.c (.bool false))⟩])
  (.seq
   (.seq
    (.reg [⟨(some 11), none, .faddr (.t 3) 2⟩,
      ⟨(some 12), none, .load none (.t 11)⟩,
      ⟨(some 13), none, .len false (.t 12)⟩,
      ⟨(some 14), none, .bin .gtr (.t 13) (.c (.int .i64 60))⟩,
      ⟨(some 15), none, .take 14⟩,
      ⟨(some 16), (some (15, false)), .faddr (.t 4) 2⟩,
      ⟨(some 17), (some (15, false)), .load none (.t 16)⟩,
      ⟨(some 18), (some (15, false)), .len false (.t 17)⟩,
      ⟨(some 19), (some (15, false)), .bin .gtr (.t 18) (.c (.int .i64 60))⟩,
      ⟨(some 20), none, .pick (.t 15) (.c (.bool true)) (.t 19)⟩,
      ⟨(some 21), none, .take 20⟩,
      ⟨(some 22), (some (21, false)), .faddr (.t 3) 1⟩,
      ⟨(some 23), (some (21, false)), .load none (.t 22)⟩,
      ⟨(some 24), (some (21, false)), .bin .lss (.t 23) (.c (.int .i64 0))⟩,
      ⟨(some 25), none, .pick (.t 21) (.c (.bool true)) (.t 24)⟩,
      ⟨(some 26), none, .take 25⟩,
      ⟨(some 27), (some (26, false)), .faddr (.t 3) 1⟩,
      ⟨(some 28), (some (26, false)), .load none (.t 27)⟩,
      ⟨(some 29), (some (26, false)), .bin .gtr (.t 28) (.c (.int .i64 1099511627776))⟩,
      ⟨(some 30), none, .pick (.t 26) (.c (.bool true)) (.t 29)⟩])
    (.cond (.t 30)
     (.seq
      (.reg [⟨(some 31), none, .call 26 []⟩,
        ⟨(some 6), none, .take 31⟩])
      .ret)
     .skip))
   (.seq
    (.reg [⟨(some 32), none, .load (some 3) (.t 3)⟩,
      ⟨(some 33), none, .call 27 [(.t 32)]⟩,
      ⟨(some 7), none, .alloc [(.int .i64 0), (.int .i64 0), .nils]⟩,
      ⟨none, none, .store 3 (.t 7) (.t 33)⟩])
    (.seq
     (.reg [⟨(some 34), none, .load (some 3) (.t 7)⟩,
       ⟨(some 35), none, .load (some 3) (.t 5)⟩,
       ⟨(some 36), none, .call 28 [(.t 34), (.t 35)]⟩,
       ⟨(some 8), none, .alloc [(.int .i64 0), (.int .i64 0), .nils]⟩,
       ⟨none, none, .store 3 (.t 8) (.t 36)⟩])
     (.seq
      (.reg [⟨(some 37), none, .load (some 3) (.t 4)⟩,
        ⟨(some 38), none, .call 27 [(.t 37)]⟩,
        ⟨(some 39), none, .fld (.t 38) 2 none⟩,
        ⟨(some 9), none, .take 39⟩])
      (.seq
       (.dreg [] [⟨(some 40), none, .load (some 3) (.t 8)⟩,
         ⟨(some 41), none, .call 30 [(.t 40)]⟩,
         ⟨(some 42), none, .load (some 3) (.t 3)⟩,
         ⟨(some 43), none, .load (some 3) (.t 5)⟩,
         ⟨(some 44), none, .call 31 [(.t 42), (.t 43)]⟩,
         ⟨(some 45), none, .call 29 [(.t 41), (.t 44)]⟩,
         ⟨(some 46), none, .mv (.t 45)⟩,
         ⟨(some 47), (some (46, true)), .load (some 3) (.t 7)⟩,
         ⟨(some 48), (some (46, true)), .call 30 [(.t 47)]⟩,
         ⟨(some 49), (some (46, true)), .load (some 3) (.t 3)⟩,
         ⟨(some 50), (some (46, true)), .call 29 [(.t 48), (.t 49)]⟩,
         ⟨(some 51), none, .pick (.t 46) (.t 50) (.c (.bool false))⟩,
         ⟨(some 52), none, .mv (.t 51)⟩,
         ⟨(some 53), (some (52, true)), .load (some 3) (.t 3)⟩,
         ⟨(some 54), (some (52, true)), .call 27 [(.t 53)]⟩,
         ⟨(some 55), (some (52, true)), .load (some 3) (.t 4)⟩,
         ⟨(some 56), (some (52, true)), .call 27 [(.t 55)]⟩,
         ⟨(some 57), (some (52, true)), .call 32 [(.t 54), (.t 56)]⟩,
         ⟨(some 58), (some (52, true)), .load (some 3) (.t 3)⟩,
         ⟨(some 59), (some (52, true)), .load (some 3) (.t 4)⟩,
         ⟨(some 60), (some (52, true)), .call 29 [(.t 58), (.t 59)]⟩,
         ⟨(some 61), (some (52, true)), .beq false (.t 57) (.t 60)⟩,
         ⟨(some 62), none, .pick (.t 52) (.t 61) (.c (.bool false))⟩,
         ⟨(some 63), none, .mv (.t 62)⟩,
         ⟨(some 64), (some (63, true)), .faddr (.t 3) 0⟩,
         ⟨(some 65), (some (63, true)), .load none (.t 64)⟩,
         ⟨(some 66), (some (63, true)), .call 33 [(.t 65)]⟩,
         ⟨(some 67), (some (63, true)), .fld (.t 66) 0 none⟩,
         ⟨(some 68), (some (63, true)), .faddr (.t 3) 0⟩,
         ⟨(some 69), (some (63, true)), .load none (.t 68)⟩,
         ⟨(some 70), (some (63, true)), .call 34 [(.t 69)]⟩,
         ⟨(some 71), (some (63, true)), .fld (.t 70) 0 none⟩,
         ⟨(some 72), (some (63, true)), .bin .eql (.t 67) (.t 71)⟩,
         ⟨(some 73), none, .pick (.t 63) (.t 72) (.c (.bool false))⟩,
         ⟨(some 10), none, .take 73⟩])
       (.seq
        (.dreg [] [⟨(some 74), none, .mv (.t 10)⟩,
          ⟨(some 75), none, .mv (.t 74)⟩,
          ⟨(some 76), (some (75, true)), .faddr (.t 3) 0⟩,
          ⟨(some 77), (some (75, true)), .load none (.t 76)⟩,
          ⟨(some 78), (some (75, true)), .mv (.t 9)⟩,
          ⟨(some 79), (some (75, true)), .call 35 [(.t 77), (.t 78)]⟩,
          ⟨(some 80), (some (75, true)), .call 30 [(.t 79)]⟩,
          ⟨(some 81), (some (75, true)), .faddr (.t 3) 0⟩,
          ⟨(some 82), (some (75, true)), .load none (.t 81)⟩,
          ⟨(some 83), (some (75, true)), .faddr (.t 4) 2⟩,
          ⟨(some 84), (some (75, true)), .load none (.t 83)⟩,
          ⟨(some 85), (some (75, true)), .call 36 [(.t 82), (.t 84)]⟩,
          ⟨(some 86), (some (75, true)), .call 29 [(.t 80), (.t 85)]⟩,
          ⟨(some 87), none, .pick (.t 75) (.t 86) (.c (.bool false))⟩,
          ⟨(some 88), none, .mv (.t 87)⟩,
          ⟨(some 89), (some (88, true)), .call 26 []⟩,
          ⟨(some 90), none, .pick (.t 88) (.t 89) (.c (.bool false))⟩,
          ⟨(some 6), none, .take 90⟩])
        .ret)))))))
def ar7 : List AR := [.t 6]
theorem comp7 : Try.f7.body.bind (comp Try.prog 91) = some ac7 := by kernel_rfl
theorem cres7 : compRes Try.prog Try.f7.results.toList = some ar7 := by kernel_rfl
/-- bilander/bilanderlaw12.IndexFinds -/
def ac8 : AC :=
 (.seq
  (.reg [⟨(some 3), none, .box 3 (.t 0)⟩,
    ⟨(some 6), none, .mv (.c (.bool false))⟩])
  (.seq
   (.seq
    (.reg [⟨(some 17), none, .faddr (.t 3) 2⟩,
      ⟨(some 18), none, .load none (.t 17)⟩,
      ⟨(some 19), none, .len false (.t 18)⟩,
      ⟨(some 20), none, .bin .gtr (.t 19) (.c (.int .i64 60))⟩])
    (.cond (.t 20)
     (.seq
      (.reg [⟨(some 21), none, .call 26 []⟩,
        ⟨(some 6), none, .take 21⟩])
      .ret)
     .skip))
   (.seq
    (.reg [⟨(some 23), none, .load (some 3) (.t 3)⟩,
      ⟨(some 24), none, .call 27 [(.t 23)]⟩,
      ⟨(some 25), none, .mv (.t 2)⟩,
      ⟨(some 26), none, .call 37 [(.t 24), (.t 25)]⟩,
      ⟨(some 22), none, .take 26⟩,
      ⟨(some 27), none, .extS 22 0⟩,
      ⟨(some 28), none, .ext 22 1⟩,
      ⟨(some 7), none, .alloc [(.int .i64 0), (.int .i64 0), (.int .i64 0)]⟩,
      ⟨none, none, .store 3 (.t 7) (.t 27)⟩,
      ⟨(some 8), none, .take 28⟩])
    (.seq
     (.reg [⟨(some 30), none, .load (some 3) (.t 3)⟩,
       ⟨(some 31), none, .mv (.t 2)⟩,
       ⟨(some 32), none, .call 38 [(.t 30), (.t 31)]⟩,
       ⟨(some 29), none, .take 32⟩,
       ⟨(some 33), none, .extS 29 0⟩,
       ⟨(some 34), none, .ext 29 1⟩,
       ⟨(some 9), none, .alloc [(.int .i64 0), (.int .i64 0), (.int .i64 0)]⟩,
       ⟨none, none, .store 3 (.t 9) (.t 33)⟩,
       ⟨(some 10), none, .take 34⟩])
     (.seq
      (.reg [⟨(some 36), none, .load (some 3) (.t 3)⟩,
        ⟨(some 37), none, .call 27 [(.t 36)]⟩,
        ⟨(some 38), none, .mv (.t 1)⟩,
        ⟨(some 39), none, .call 39 [(.t 37), (.t 38)]⟩,
        ⟨(some 35), none, .take 39⟩,
        ⟨(some 40), none, .extS 35 0⟩,
        ⟨(some 41), none, .ext 35 1⟩,
        ⟨(some 11), none, .alloc [(.int .i64 0), (.int .i64 0), (.int .i64 0)]⟩,
        ⟨none, none, .store 3 (.t 11) (.t 40)⟩,
        ⟨(some 12), none, .take 41⟩])
      (.seq
       (.seq
        (.reg [⟨(some 42), none, .load (some 3) (.t 7)⟩,
          ⟨(some 43), none, .load (some 3) (.t 9)⟩,
          ⟨(some 44), none, .eqs [1, 1, 1] true (.t 42) (.t 43)⟩,
          ⟨(some 45), none, .take 44⟩,
          ⟨(some 46), (some (45, false)), .mv (.t 8)⟩,
          ⟨(some 47), (some (45, false)), .mv (.t 10)⟩,
          ⟨(some 48), (some (45, false)), .beq true (.t 46) (.t 47)⟩,
          ⟨(some 49), none, .pick (.t 45) (.c (.bool true)) (.t 48)⟩])
        (.cond (.t 49)
         (.seq
          (.reg [⟨(some 6), none, .mv (.c (.bool false))⟩])
          .ret)
         .skip))
       (.seq
        (.seq
         (.reg [⟨(some 50), none, .faddr (.t 3) 2⟩,
           ⟨(some 51), none, .load none (.t 50)⟩,
           ⟨(some 52), none, .call 40 [(.t 51)]⟩,
           ⟨(some 53), none, .una .not (.t 52)⟩])
         (.cond (.t 53)
          (.seq
           (.reg [⟨(some 54), none, .mv (.t 12)⟩,
             ⟨(some 55), none, .una .not (.t 54)⟩,
             ⟨(some 13), none, .take 55⟩])
           (.seq
            (.seq
             (.reg [⟨(some 14), none, .mv (.c (.int .i64 0))⟩])
             (.block 0
              (.loop
               (.seq
                (.seq
                 (.reg [⟨(some 56), none, .mv (.t 14)⟩,
                   ⟨(some 57), none, .faddr (.t 3) 2⟩,
                   ⟨(some 58), none, .load none (.t 57)⟩,
                   ⟨(some 59), none, .len false (.t 58)⟩,
                   ⟨(some 60), none, .bin .lss (.t 56) (.t 59)⟩])
                 (.cond (.t 60)
                  .skip
                  (.exit 0)))
                (.seq
                 (.block 1
                  (.dreg [] [⟨(some 63), none, .mv (.t 13)⟩,
                    ⟨(some 64), none, .mv (.t 63)⟩,
                    ⟨(some 65), (some (64, false)), .faddr (.t 3) 2⟩,
                    ⟨(some 66), (some (64, false)), .load none (.t 65)⟩,
                    ⟨(some 67), (some (64, false)), .mv (.t 14)⟩,
                    ⟨(some 68), (some (64, false)), .iaddr 3 (.t 66) (.t 67)⟩,
                    ⟨(some 69), (some (64, false)), .load (some 3) (.t 68)⟩,
                    ⟨(some 70), (some (64, false)), .load (some 3) (.t 11)⟩,
                    ⟨(some 71), (some (64, false)), .eqs [1, 1, 1] false (.t 69) (.t 70)⟩,
                    ⟨(some 72), none, .pick (.t 64) (.c (.bool true)) (.t 71)⟩,
                    ⟨(some 13), none, .take 72⟩]))
                 (.reg [⟨(some 61), none, .take 14⟩,
                   ⟨(some 62), none, .bin .add (.t 61) (.c (.int .i64 1))⟩,
                   ⟨(some 14), none, .take 62⟩]))))))
            (.seq
             (.reg [⟨(some 73), none, .mv (.t 13)⟩,
               ⟨(some 74), none, .take 73⟩,
               ⟨(some 75), (some (74, true)), .call 26 []⟩,
               ⟨(some 76), none, .pick (.t 74) (.t 75) (.c (.bool false))⟩,
               ⟨(some 6), none, .take 76⟩])
             .ret)))
          .skip))
        (.seq
         (.reg [⟨(some 78), none, .load (some 3) (.t 3)⟩,
           ⟨(some 79), none, .mv (.t 1)⟩,
           ⟨(some 80), none, .call 41 [(.t 78), (.t 79)]⟩,
           ⟨(some 77), none, .take 80⟩,
           ⟨(some 81), none, .extS 77 0⟩,
           ⟨(some 82), none, .ext 77 1⟩,
           ⟨(some 15), none, .alloc [(.int .i64 0), (.int .i64 0), (.int .i64 0)]⟩,
           ⟨none, none, .store 3 (.t 15) (.t 81)⟩,
           ⟨(some 16), none, .take 82⟩])
         (.seq
          (.reg [⟨(some 83), none, .load (some 3) (.t 11)⟩,
            ⟨(some 84), none, .load (some 3) (.t 15)⟩,
            ⟨(some 85), none, .eqs [1, 1, 1] false (.t 83) (.t 84)⟩,
            ⟨(some 86), none, .take 85⟩,
            ⟨(some 87), (some (86, true)), .mv (.t 12)⟩,
            ⟨(some 88), (some (86, true)), .mv (.t 16)⟩,
            ⟨(some 89), (some (86, true)), .beq false (.t 87) (.t 88)⟩,
            ⟨(some 90), none, .pick (.t 86) (.t 89) (.c (.bool false))⟩,
            ⟨(some 91), none, .take 90⟩,
            ⟨(some 92), (some (91, true)), .call 26 []⟩,
            ⟨(some 93), none, .pick (.t 91) (.t 92) (.c (.bool false))⟩,
            ⟨(some 6), none, .take 93⟩])
          .ret)))))))))
def ar8 : List AR := [.t 6]
theorem comp8 : Try.f8.body.bind (comp Try.prog 94) = some ac8 := by kernel_rfl
theorem cres8 : compRes Try.prog Try.f8.results.toList = some ar8 := by kernel_rfl
/-- bilander/bilanderlaw12.IndexNear -/
def ac9 : AC :=
 (.seq
  (.reg [⟨(some 6), none, .mv (.c (.bool false))⟩])
  (.seq
   (.seq
    (.reg [⟨(some 14), none, .mv (.t 0)⟩,
      ⟨(some 15), none, .len false (.t 14)⟩,
      ⟨(some 16), none, .bin .gtr (.t 15) (.c (.int .i64 60))⟩,
      ⟨(some 17), none, .take 16⟩,
      ⟨(some 18), (some (17, false)), .mv (.t 0)⟩,
      ⟨(some 19), (some (17, false)), .call 40 [(.t 18)]⟩,
      ⟨(some 20), (some (17, false)), .una .not (.t 19)⟩,
      ⟨(some 21), none, .pick (.t 17) (.c (.bool true)) (.t 20)⟩])
    (.cond (.t 21)
     (.seq
      (.reg [⟨(some 22), none, .call 26 []⟩,
        ⟨(some 6), none, .take 22⟩])
      .ret)
     .skip))
   (.seq
    (.reg [⟨(some 23), none, .mv (.t 1)⟩,
      ⟨(some 24), none, .bin .rem (.t 23) (.c (.int .u8 8))⟩,
      ⟨(some 25), none, .conv .i64 (.t 24)⟩,
      ⟨(some 26), none, .minmax true (.c (.int .i64 1)) (.t 25)⟩,
      ⟨(some 7), none, .take 26⟩])
    (.seq
     (.reg [⟨(some 8), none, .mv (.c .nils)⟩])
     (.seq
      (.reg [⟨(some 9), none, .mv (.c (.int .i64 (-1)))⟩])
      (.seq
       (.seq
        (.reg [⟨(some 10), none, .mv (.c (.int .i64 0))⟩])
        (.block 0
         (.loop
          (.seq
           (.seq
            (.reg [⟨(some 27), none, .mv (.t 10)⟩,
              ⟨(some 28), none, .mv (.t 0)⟩,
              ⟨(some 29), none, .len false (.t 28)⟩,
              ⟨(some 30), none, .bin .lss (.t 27) (.t 29)⟩])
            (.cond (.t 30)
             .skip
             (.exit 0)))
           (.seq
            (.block 1
             (.seq
              (.reg [⟨(some 33), none, .take 8⟩,
                ⟨(some 34), none, .mv (.t 0)⟩,
                ⟨(some 35), none, .mv (.t 10)⟩,
                ⟨(some 36), none, .iaddr 3 (.t 34) (.t 35)⟩,
                ⟨(some 37), none, .load (some 3) (.t 36)⟩,
                ⟨(some 38), none, .bsl 3 1 [(.int .i64 0), (.int .i64 0), (.int .i64 0)] [(0, (.t 37))]⟩,
                ⟨(some 39), none, .app 3 24 33 (.t 38)⟩,
                ⟨(some 8), none, .take 39⟩])
              (.seq
               (.reg [⟨(some 40), none, .mv (.t 0)⟩,
                 ⟨(some 41), none, .mv (.t 10)⟩,
                 ⟨(some 42), none, .iaddr 3 (.t 40) (.t 41)⟩,
                 ⟨(some 43), none, .faddr (.t 42) 0⟩,
                 ⟨(some 44), none, .load none (.t 43)⟩,
                 ⟨(some 45), none, .mv (.t 2)⟩,
                 ⟨(some 46), none, .bin .leq (.t 44) (.t 45)⟩])
               (.cond (.t 46)
                (.reg [⟨(some 47), none, .take 10⟩,
                  ⟨(some 9), none, .take 47⟩])
                .skip))))
            (.reg [⟨(some 31), none, .take 10⟩,
              ⟨(some 32), none, .bin .add (.t 31) (.c (.int .i64 1))⟩,
              ⟨(some 10), none, .take 32⟩]))))))
       (.seq
        (.reg [⟨(some 49), none, .mv (.t 7)⟩,
          ⟨(some 50), none, .mv (.t 8)⟩,
          ⟨(some 51), none, .call 35 [(.t 49), (.t 50)]⟩,
          ⟨(some 52), none, .mv (.t 2)⟩,
          ⟨(some 53), none, .call 39 [(.t 51), (.t 52)]⟩,
          ⟨(some 48), none, .take 53⟩,
          ⟨(some 54), none, .extS 48 0⟩,
          ⟨(some 55), none, .ext 48 1⟩,
          ⟨(some 11), none, .alloc [(.int .i64 0), (.int .i64 0), (.int .i64 0)]⟩,
          ⟨none, none, .store 3 (.t 11) (.t 54)⟩,
          ⟨(some 12), none, .take 55⟩])
        (.seq
         (.seq
          (.reg [⟨(some 56), none, .mv (.t 12)⟩,
            ⟨(some 57), none, .una .not (.t 56)⟩])
          (.cond (.t 57)
           (.seq
            (.reg [⟨(some 58), none, .mv (.t 9)⟩,
              ⟨(some 59), none, .bin .lss (.t 58) (.c (.int .i64 0))⟩,
              ⟨(some 60), none, .take 59⟩,
              ⟨(some 61), (some (60, true)), .call 26 []⟩,
              ⟨(some 62), none, .pick (.t 60) (.t 61) (.c (.bool false))⟩,
              ⟨(some 6), none, .take 62⟩])
            .ret)
           .skip))
         (.seq
          (.seq
           (.reg [⟨(some 63), none, .mv (.t 9)⟩,
             ⟨(some 64), none, .mv (.t 7)⟩,
             ⟨(some 65), none, .bin .sub (.t 63) (.t 64)⟩,
             ⟨(some 66), none, .bin .add (.t 65) (.c (.int .i64 1))⟩,
             ⟨(some 67), none, .minmax true (.c (.int .i64 0)) (.t 66)⟩,
             ⟨(some 13), none, .take 67⟩])
           (.block 2
            (.loop
             (.seq
              (.seq
               (.reg [⟨(some 68), none, .mv (.t 13)⟩,
                 ⟨(some 69), none, .mv (.t 9)⟩,
                 ⟨(some 70), none, .bin .leq (.t 68) (.t 69)⟩])
               (.cond (.t 70)
                .skip
                (.exit 2)))
              (.seq
               (.block 3
                (.seq
                 (.dreg [] [⟨(some 73), none, .mv (.t 0)⟩,
                   ⟨(some 74), none, .mv (.t 13)⟩,
                   ⟨(some 75), none, .iaddr 3 (.t 73) (.t 74)⟩,
                   ⟨(some 76), none, .faddr (.t 75) 0⟩,
                   ⟨(some 77), none, .load none (.t 76)⟩,
                   ⟨(some 78), none, .faddr (.t 11) 0⟩,
                   ⟨(some 79), none, .load none (.t 78)⟩,
                   ⟨(some 80), none, .bin .eql (.t 77) (.t 79)⟩,
                   ⟨(some 81), none, .mv (.t 80)⟩,
                   ⟨(some 82), (some (81, true)), .mv (.t 0)⟩,
                   ⟨(some 83), (some (81, true)), .mv (.t 13)⟩,
                   ⟨(some 84), (some (81, true)), .iaddr 3 (.t 82) (.t 83)⟩,
                   ⟨(some 85), (some (81, true)), .faddr (.t 84) 2⟩,
                   ⟨(some 86), (some (81, true)), .load none (.t 85)⟩,
                   ⟨(some 87), (some (81, true)), .faddr (.t 11) 2⟩,
                   ⟨(some 88), (some (81, true)), .load none (.t 87)⟩,
                   ⟨(some 89), (some (81, true)), .bin .eql (.t 86) (.t 88)⟩,
                   ⟨(some 90), none, .pick (.t 81) (.t 89) (.c (.bool false))⟩,
                   ⟨(some 91), none, .mv (.t 90)⟩,
                   ⟨(some 92), (some (91, true)), .mv (.t 0)⟩,
                   ⟨(some 93), (some (91, true)), .mv (.t 13)⟩,
                   ⟨(some 94), (some (91, true)), .iaddr 3 (.t 92) (.t 93)⟩,
                   ⟨(some 95), (some (91, true)), .faddr (.t 94) 0⟩,
                   ⟨(some 96), (some (91, true)), .load none (.t 95)⟩,
                   ⟨(some 97), (some (91, true)), .mv (.t 2)⟩,
                   ⟨(some 98), (some (91, true)), .bin .leq (.t 96) (.t 97)⟩,
                   ⟨(some 99), none, .pick (.t 91) (.t 98) (.c (.bool false))⟩])
                 (.cond (.t 99)
                  (.seq
                   (.reg [⟨(some 100), none, .call 26 []⟩,
                     ⟨(some 6), none, .take 100⟩])
                   .ret)
                  .skip)))
               (.reg [⟨(some 71), none, .take 13⟩,
                 ⟨(some 72), none, .bin .add (.t 71) (.c (.int .i64 1))⟩,
                 ⟨(some 13), none, .take 72⟩]))))))
          (.seq
           (.reg [⟨(some 6), none, .mv (.c (.bool false))⟩])
           .ret))))))))))
def ar9 : List AR := [.t 6]
theorem comp9 : Try.f9.body.bind (comp Try.prog 101) = some ac9 := by kernel_rfl
theorem cres9 : compRes Try.prog Try.f9.results.toList = some ar9 := by kernel_rfl
/-- bilander/bilanderlaw12.IndexTimes -/
def ac10 : AC :=
 (.seq
  (.reg [⟨(some 6), none, .mv (.c (.bool false))⟩])
  (.seq
   (.seq
    (.reg [⟨(some 17), none, .mv (.t 0)⟩,
      ⟨(some 18), none, .len false (.t 17)⟩,
      ⟨(some 19), none, .bin .gtr (.t 18) (.c (.int .i64 60))⟩])
    (.cond (.t 19)
     (.seq
      (.reg [⟨(some 20), none, .call 26 []⟩,
        ⟨(some 6), none, .take 20⟩])
      .ret)
     .skip))
   (.seq
    (.reg [⟨(some 21), none, .mv (.t 1)⟩,
      ⟨(some 22), none, .bin .rem (.t 21) (.c (.int .u8 8))⟩,
      ⟨(some 23), none, .conv .i64 (.t 22)⟩,
      ⟨(some 24), none, .minmax true (.c (.int .i64 1)) (.t 23)⟩,
      ⟨(some 7), none, .take 24⟩])
    (.seq
     (.reg [⟨(some 8), none, .mv (.c .nils)⟩])
     (.seq
      (.seq
       (.reg [⟨(some 9), none, .mv (.c (.int .i64 0))⟩])
       (.block 0
        (.loop
         (.seq
          (.seq
           (.reg [⟨(some 25), none, .mv (.t 9)⟩,
             ⟨(some 26), none, .mv (.t 0)⟩,
             ⟨(some 27), none, .len false (.t 26)⟩,
             ⟨(some 28), none, .bin .lss (.t 25) (.t 27)⟩])
           (.cond (.t 28)
            .skip
            (.exit 0)))
          (.seq
           (.block 1
            (.seq
             (.reg [⟨(some 31), none, .mv (.t 0)⟩,
               ⟨(some 32), none, .mv (.t 9)⟩,
               ⟨(some 33), none, .iaddr 3 (.t 31) (.t 32)⟩,
               ⟨(some 34), none, .load (some 3) (.t 33)⟩,
               ⟨(some 10), none, .alloc [(.int .i64 0), (.int .i64 0), (.int .i64 0)]⟩,
               ⟨none, none, .store 3 (.t 10) (.t 34)⟩])
             (.seq
              (.reg [⟨(some 35), none, .mv (.t 9)⟩,
                ⟨(some 36), none, .faddr (.t 10) 2⟩,
                ⟨none, none, .store 1 (.t 36) (.t 35)⟩])
              (.reg [⟨(some 37), none, .take 8⟩,
                ⟨(some 38), none, .load (some 3) (.t 10)⟩,
                ⟨(some 39), none, .bsl 3 1 [(.int .i64 0), (.int .i64 0), (.int .i64 0)] [(0, (.t 38))]⟩,
                ⟨(some 40), none, .app 3 24 37 (.t 39)⟩,
                ⟨(some 8), none, .take 40⟩]))))
           (.reg [⟨(some 29), none, .take 9⟩,
             ⟨(some 30), none, .bin .add (.t 29) (.c (.int .i64 1))⟩,
             ⟨(some 9), none, .take 30⟩]))))))
      (.seq
       (.reg [⟨(some 41), none, .mv (.t 7)⟩,
         ⟨(some 42), none, .mv (.t 8)⟩,
         ⟨(some 43), none, .call 35 [(.t 41), (.t 42)]⟩,
         ⟨(some 11), none, .alloc [(.int .i64 0), (.int .i64 0), .nils]⟩,
         ⟨none, none, .store 3 (.t 11) (.t 43)⟩])
       (.seq
        (.seq
         (.reg [⟨(some 12), none, .mv (.c (.int .i64 1))⟩])
         (.block 2
          (.loop
           (.seq
            (.seq
             (.reg [⟨(some 44), none, .mv (.t 12)⟩,
               ⟨(some 45), none, .faddr (.t 11) 2⟩,
               ⟨(some 46), none, .load none (.t 45)⟩,
               ⟨(some 47), none, .len false (.t 46)⟩,
               ⟨(some 48), none, .bin .lss (.t 44) (.t 47)⟩])
             (.cond (.t 48)
              .skip
              (.exit 2)))
            (.seq
             (.block 3
              (.seq
               (.dreg [] [⟨(some 51), none, .faddr (.t 11) 2⟩,
                 ⟨(some 52), none, .load none (.t 51)⟩,
                 ⟨(some 53), none, .mv (.t 12)⟩,
                 ⟨(some 54), none, .bin .sub (.t 53) (.c (.int .i64 1))⟩,
                 ⟨(some 55), none, .iaddr 3 (.t 52) (.t 54)⟩,
                 ⟨(some 56), none, .faddr (.t 55) 1⟩,
                 ⟨(some 57), none, .load none (.t 56)⟩,
                 ⟨(some 58), none, .faddr (.t 11) 2⟩,
                 ⟨(some 59), none, .load none (.t 58)⟩,
                 ⟨(some 60), none, .mv (.t 12)⟩,
                 ⟨(some 61), none, .iaddr 3 (.t 59) (.t 60)⟩,
                 ⟨(some 62), none, .faddr (.t 61) 1⟩,
                 ⟨(some 63), none, .load none (.t 62)⟩,
                 ⟨(some 64), none, .bin .gtr (.t 57) (.t 63)⟩])
               (.cond (.t 64)
                (.seq
                 (.reg [⟨(some 6), none, .mv (.c (.bool false))⟩])
                 .ret)
                .skip)))
             (.reg [⟨(some 49), none, .take 12⟩,
               ⟨(some 50), none, .bin .add (.t 49) (.c (.int .i64 1))⟩,
               ⟨(some 12), none, .take 50⟩]))))))
        (.seq
         (.reg [⟨(some 66), none, .load (some 3) (.t 11)⟩,
           ⟨(some 67), none, .mv (.t 2)⟩,
           ⟨(some 68), none, .call 37 [(.t 66), (.t 67)]⟩,
           ⟨(some 65), none, .take 68⟩,
           ⟨(some 69), none, .extS 65 0⟩,
           ⟨(some 70), none, .ext 65 1⟩,
           ⟨(some 13), none, .alloc [(.int .i64 0), (.int .i64 0), (.int .i64 0)]⟩,
           ⟨none, none, .store 3 (.t 13) (.t 69)⟩,
           ⟨(some 14), none, .take 70⟩])
         (.seq
          (.seq
           (.reg [⟨(some 71), none, .mv (.t 14)⟩,
             ⟨(some 72), none, .una .not (.t 71)⟩])
           (.cond (.t 72)
            (.seq
             (.reg [⟨(some 73), none, .mv (.t 0)⟩,
               ⟨(some 74), none, .len false (.t 73)⟩,
               ⟨(some 75), none, .bin .eql (.t 74) (.c (.int .i64 0))⟩,
               ⟨(some 76), none, .take 75⟩,
               ⟨(some 77), (some (76, false)), .mv (.t 0)⟩,
               ⟨(some 78), (some (76, false)), .iaddr 3 (.t 77) (.c (.int .i64 0))⟩,
               ⟨(some 79), (some (76, false)), .faddr (.t 78) 1⟩,
               ⟨(some 80), (some (76, false)), .load none (.t 79)⟩,
               ⟨(some 81), (some (76, false)), .mv (.t 2)⟩,
               ⟨(some 82), (some (76, false)), .bin .geq (.t 80) (.t 81)⟩,
               ⟨(some 83), none, .pick (.t 76) (.c (.bool true)) (.t 82)⟩,
               ⟨(some 84), none, .take 83⟩,
               ⟨(some 85), (some (84, true)), .call 26 []⟩,
               ⟨(some 86), none, .pick (.t 84) (.t 85) (.c (.bool false))⟩,
               ⟨(some 6), none, .take 86⟩])
             .ret)
            .skip))
          (.seq
           (.seq
            (.reg [⟨(some 15), none, .mv (.c (.int .i64 0))⟩])
            (.block 4
             (.loop
              (.seq
               (.seq
                (.reg [⟨(some 87), none, .mv (.t 15)⟩,
                  ⟨(some 88), none, .faddr (.t 13) 2⟩,
                  ⟨(some 89), none, .load none (.t 88)⟩,
                  ⟨(some 90), none, .bin .leq (.t 87) (.t 89)⟩])
                (.cond (.t 90)
                 .skip
                 (.exit 4)))
               (.seq
                (.block 5
                 (.seq
                  (.reg [⟨(some 94), none, .mv (.t 0)⟩,
                    ⟨(some 95), none, .mv (.t 15)⟩,
                    ⟨(some 96), none, .iaddr 3 (.t 94) (.t 95)⟩,
                    ⟨(some 97), none, .faddr (.t 96) 1⟩,
                    ⟨(some 98), none, .load none (.t 97)⟩,
                    ⟨(some 99), none, .mv (.t 2)⟩,
                    ⟨(some 100), none, .bin .geq (.t 98) (.t 99)⟩])
                  (.cond (.t 100)
                   (.seq
                    (.reg [⟨(some 6), none, .mv (.c (.bool false))⟩])
                    .ret)
                   .skip)))
                (.reg [⟨(some 91), none, .take 15⟩,
                  ⟨(some 92), none, .mv (.t 7)⟩,
                  ⟨(some 93), none, .bin .add (.t 91) (.t 92)⟩,
                  ⟨(some 15), none, .take 93⟩]))))))
           (.seq
            (.reg [⟨(some 101), none, .faddr (.t 13) 2⟩,
              ⟨(some 102), none, .load none (.t 101)⟩,
              ⟨(some 103), none, .mv (.t 7)⟩,
              ⟨(some 104), none, .bin .add (.t 102) (.t 103)⟩,
              ⟨(some 16), none, .take 104⟩])
            (.seq
             (.reg [⟨(some 105), none, .mv (.t 16)⟩,
               ⟨(some 106), none, .mv (.t 0)⟩,
               ⟨(some 107), none, .len false (.t 106)⟩,
               ⟨(some 108), none, .bin .geq (.t 105) (.t 107)⟩,
               ⟨(some 109), none, .take 108⟩,
               ⟨(some 110), (some (109, false)), .mv (.t 0)⟩,
               ⟨(some 111), (some (109, false)), .mv (.t 16)⟩,
               ⟨(some 112), (some (109, false)), .iaddr 3 (.t 110) (.t 111)⟩,
               ⟨(some 113), (some (109, false)), .faddr (.t 112) 1⟩,
               ⟨(some 114), (some (109, false)), .load none (.t 113)⟩,
               ⟨(some 115), (some (109, false)), .mv (.t 2)⟩,
               ⟨(some 116), (some (109, false)), .bin .geq (.t 114) (.t 115)⟩,
               ⟨(some 117), none, .pick (.t 109) (.c (.bool true)) (.t 116)⟩,
               ⟨(some 118), none, .take 117⟩,
               ⟨(some 119), (some (118, true)), .call 26 []⟩,
               ⟨(some 120), none, .pick (.t 118) (.t 119) (.c (.bool false))⟩,
               ⟨(some 6), none, .take 120⟩])
             .ret))))))))))))
def ar10 : List AR := [.t 6]
theorem comp10 : Try.f10.body.bind (comp Try.prog 121) = some ac10 := by kernel_rfl
theorem cres10 : compRes Try.prog Try.f10.results.toList = some ar10 := by kernel_rfl
/-- bilander/bilanderlaw12.IndexGrows -/
def ac11 : AC :=
 (.seq
  (.reg [⟨(some 5), none, .box 3 (.t 2)⟩,
    ⟨(some 6), none, .mv (.c (.bool false))⟩])
  (.seq
   (.seq
    (.reg [⟨(some 11), none, .mv (.t 0)⟩,
      ⟨(some 12), none, .len false (.t 11)⟩,
      ⟨(some 13), none, .bin .gtr (.t 12) (.c (.int .i64 60))⟩])
    (.cond (.t 13)
     (.seq
      (.reg [⟨(some 14), none, .call 26 []⟩,
        ⟨(some 6), none, .take 14⟩])
      .ret)
     .skip))
   (.seq
    (.reg [⟨(some 7), none, .mv (.c .nils)⟩])
    (.seq
     (.seq
      (.reg [⟨(some 8), none, .mv (.c (.int .i64 0))⟩])
      (.block 0
       (.loop
        (.seq
         (.seq
          (.reg [⟨(some 15), none, .mv (.t 8)⟩,
            ⟨(some 16), none, .mv (.t 0)⟩,
            ⟨(some 17), none, .len false (.t 16)⟩,
            ⟨(some 18), none, .bin .lss (.t 15) (.t 17)⟩])
          (.cond (.t 18)
           .skip
           (.exit 0)))
         (.seq
          (.block 1
           (.reg [⟨(some 21), none, .take 7⟩,
             ⟨(some 22), none, .mv (.t 0)⟩,
             ⟨(some 23), none, .mv (.t 8)⟩,
             ⟨(some 24), none, .iaddr 3 (.t 22) (.t 23)⟩,
             ⟨(some 25), none, .load (some 3) (.t 24)⟩,
             ⟨(some 26), none, .bsl 3 1 [(.int .i64 0), (.int .i64 0), (.int .i64 0)] [(0, (.t 25))]⟩,
             ⟨(some 27), none, .app 3 24 21 (.t 26)⟩,
             ⟨(some 7), none, .take 27⟩]))
          (.reg [⟨(some 19), none, .take 8⟩,
            ⟨(some 20), none, .bin .add (.t 19) (.c (.int .i64 1))⟩,
            ⟨(some 8), none, .take 20⟩]))))))
     (.seq
      (.reg [⟨(some 28), none, .mv (.t 1)⟩,
        ⟨(some 29), none, .mv (.t 7)⟩,
        ⟨(some 30), none, .call 35 [(.t 28), (.t 29)]⟩,
        ⟨(some 9), none, .alloc [(.int .i64 0), (.int .i64 0), .nils]⟩,
        ⟨none, none, .store 3 (.t 9) (.t 30)⟩])
      (.seq
       (.reg [⟨(some 31), none, .mv (.t 1)⟩,
         ⟨(some 32), none, .take 7⟩,
         ⟨(some 33), none, .load (some 3) (.t 5)⟩,
         ⟨(some 34), none, .bsl 3 1 [(.int .i64 0), (.int .i64 0), (.int .i64 0)] [(0, (.t 33))]⟩,
         ⟨(some 35), none, .app 3 24 32 (.t 34)⟩,
         ⟨(some 36), none, .call 35 [(.t 31), (.t 35)]⟩,
         ⟨(some 10), none, .alloc [(.int .i64 0), (.int .i64 0), .nils]⟩,
         ⟨none, none, .store 3 (.t 10) (.t 36)⟩])
       (.seq
        (.dreg [] [⟨(some 37), none, .load (some 3) (.t 9)⟩,
          ⟨(some 38), none, .load (some 3) (.t 5)⟩,
          ⟨(some 39), none, .call 28 [(.t 37), (.t 38)]⟩,
          ⟨(some 40), none, .load (some 3) (.t 10)⟩,
          ⟨(some 41), none, .call 32 [(.t 39), (.t 40)]⟩,
          ⟨(some 42), none, .mv (.t 41)⟩,
          ⟨(some 43), (some (42, true)), .faddr (.t 9) 1⟩,
          ⟨(some 44), (some (42, true)), .load none (.t 43)⟩,
          ⟨(some 45), (some (42, true)), .mv (.t 0)⟩,
          ⟨(some 46), (some (42, true)), .len false (.t 45)⟩,
          ⟨(some 47), (some (42, true)), .bin .eql (.t 44) (.t 46)⟩,
          ⟨(some 48), none, .pick (.t 42) (.t 47) (.c (.bool false))⟩,
          ⟨(some 49), none, .mv (.t 48)⟩,
          ⟨(some 50), (some (49, true)), .faddr (.t 10) 1⟩,
          ⟨(some 51), (some (49, true)), .load none (.t 50)⟩,
          ⟨(some 52), (some (49, true)), .mv (.t 0)⟩,
          ⟨(some 53), (some (49, true)), .len false (.t 52)⟩,
          ⟨(some 54), (some (49, true)), .bin .add (.t 53) (.c (.int .i64 1))⟩,
          ⟨(some 55), (some (49, true)), .bin .eql (.t 51) (.t 54)⟩,
          ⟨(some 56), none, .pick (.t 49) (.t 55) (.c (.bool false))⟩,
          ⟨(some 57), none, .mv (.t 56)⟩,
          ⟨(some 58), (some (57, true)), .call 26 []⟩,
          ⟨(some 59), none, .pick (.t 57) (.t 58) (.c (.bool false))⟩,
          ⟨(some 6), none, .take 59⟩])
        .ret)))))))
def ar11 : List AR := [.t 6]
theorem comp11 : Try.f11.body.bind (comp Try.prog 60) = some ac11 := by kernel_rfl
theorem cres11 : compRes Try.prog Try.f11.results.toList = some ar11 := by kernel_rfl
/-- bilander/bilanderlaw12.awake -/
def ac26 : AC :=
 (.seq
  (.reg [⟨(some 0), none, .mv (.c (.bool false))⟩])
  (.seq
   (.reg [⟨(some 10), none, .build [(.int .i64 0), (.int .i64 0), (.int .i64 0)] [(0, 1, (.c (.int .i64 0)))]⟩,
     ⟨(some 11), none, .build [(.int .i64 0), (.int .i64 0), (.int .i64 0)] [(0, 1, (.c (.int .i64 5))), (1, 1, (.c (.int .i64 9)))]⟩,
     ⟨(some 12), none, .build [(.int .i64 0), (.int .i64 0), (.int .i64 0)] [(0, 1, (.c (.int .i64 9))), (1, 1, (.c (.int .i64 4)))]⟩,
     ⟨(some 13), none, .build [(.int .i64 0), (.int .i64 0), (.int .i64 0)] [(0, 1, (.c (.int .i64 12)))]⟩,
     ⟨(some 14), none, .bsl 3 4 [(.int .i64 0), (.int .i64 0), (.int .i64 0)] [(0, (.t 10)), (1, (.t 11)), (2, (.t 12)), (3, (.t 13))]⟩,
     ⟨(some 15), none, .call 35 [(.c (.int .i64 2)), (.t 14)]⟩,
     ⟨(some 1), none, .alloc [(.int .i64 0), (.int .i64 0), .nils]⟩,
     ⟨none, none, .store 3 (.t 1) (.t 15)⟩])
   (.seq
    (.reg [⟨(some 17), none, .load (some 3) (.t 1)⟩,
      ⟨(some 18), none, .call 39 [(.t 17), (.c (.int .i64 8))]⟩,
      ⟨(some 16), none, .take 18⟩,
      ⟨(some 19), none, .extS 16 0⟩,
      ⟨(some 20), none, .ext 16 1⟩,
      ⟨(some 2), none, .alloc [(.int .i64 0), (.int .i64 0), (.int .i64 0)]⟩,
      ⟨none, none, .store 3 (.t 2) (.t 19)⟩,
      ⟨(some 3), none, .take 20⟩])
    (.seq
     (.reg [⟨(some 22), none, .load (some 3) (.t 1)⟩,
       ⟨(some 23), none, .call 39 [(.t 22), (.c (.int .i64 9))]⟩,
       ⟨(some 21), none, .take 23⟩,
       ⟨(some 24), none, .extS 21 0⟩,
       ⟨(some 25), none, .ext 21 1⟩,
       ⟨(some 4), none, .alloc [(.int .i64 0), (.int .i64 0), (.int .i64 0)]⟩,
       ⟨none, none, .store 3 (.t 4) (.t 24)⟩,
       ⟨(some 5), none, .take 25⟩])
     (.seq
      (.reg [⟨(some 27), none, .load (some 3) (.t 1)⟩,
        ⟨(some 28), none, .call 37 [(.t 27), (.c (.int .i64 4))]⟩,
        ⟨(some 26), none, .take 28⟩,
        ⟨(some 29), none, .extS 26 0⟩,
        ⟨(some 30), none, .ext 26 1⟩,
        ⟨(some 6), none, .alloc [(.int .i64 0), (.int .i64 0), (.int .i64 0)]⟩,
        ⟨none, none, .store 3 (.t 6) (.t 29)⟩,
        ⟨(some 7), none, .take 30⟩])
      (.seq
       (.reg [⟨(some 32), none, .load (some 3) (.t 1)⟩,
         ⟨(some 33), none, .call 39 [(.t 32), (.c (.int .i64 (-1)))]⟩,
         ⟨(some 31), none, .take 33⟩,
         ⟨(some 34), none, .extS 31 0⟩,
         ⟨(some 35), none, .ext 31 1⟩,
         ⟨(some 8), none, .alloc [(.int .i64 0), (.int .i64 0), (.int .i64 0)]⟩,
         ⟨none, none, .store 3 (.t 8) (.t 34)⟩,
         ⟨(some 9), none, .take 35⟩])
       (.seq
        (.dreg [] [⟨(some 36), none, .mv (.t 3)⟩,
          ⟨(some 37), none, .mv (.t 36)⟩,
          ⟨(some 38), (some (37, true)), .mv (.t 5)⟩,
          ⟨(some 39), none, .pick (.t 37) (.t 38) (.c (.bool false))⟩,
          ⟨(some 40), none, .mv (.t 39)⟩,
          ⟨(some 41), (some (40, true)), .mv (.t 7)⟩,
          ⟨(some 42), none, .pick (.t 40) (.t 41) (.c (.bool false))⟩,
          ⟨(some 43), none, .mv (.t 42)⟩,
          ⟨(some 44), (some (43, true)), .mv (.t 9)⟩,
          ⟨(some 45), (some (43, true)), .una .not (.t 44)⟩,
          ⟨(some 46), none, .pick (.t 43) (.t 45) (.c (.bool false))⟩,
          ⟨(some 47), none, .mv (.t 46)⟩,
          ⟨(some 48), (some (47, true)), .faddr (.t 2) 0⟩,
          ⟨(some 49), (some (47, true)), .load none (.t 48)⟩,
          ⟨(some 50), (some (47, true)), .bin .eql (.t 49) (.c (.int .i64 0))⟩,
          ⟨(some 51), none, .pick (.t 47) (.t 50) (.c (.bool false))⟩,
          ⟨(some 52), none, .mv (.t 51)⟩,
          ⟨(some 53), (some (52, true)), .faddr (.t 4) 0⟩,
          ⟨(some 54), (some (52, true)), .load none (.t 53)⟩,
          ⟨(some 55), (some (52, true)), .bin .eql (.t 54) (.c (.int .i64 9))⟩,
          ⟨(some 56), none, .pick (.t 52) (.t 55) (.c (.bool false))⟩,
          ⟨(some 57), none, .mv (.t 56)⟩,
          ⟨(some 58), (some (57, true)), .faddr (.t 4) 1⟩,
          ⟨(some 59), (some (57, true)), .load none (.t 58)⟩,
          ⟨(some 60), (some (57, true)), .bin .eql (.t 59) (.c (.int .i64 4))⟩,
          ⟨(some 61), none, .pick (.t 57) (.t 60) (.c (.bool false))⟩,
          ⟨(some 62), none, .mv (.t 61)⟩,
          ⟨(some 63), (some (62, true)), .faddr (.t 6) 0⟩,
          ⟨(some 64), (some (62, true)), .load none (.t 63)⟩,
          ⟨(some 65), (some (62, true)), .bin .eql (.t 64) (.c (.int .i64 0))⟩,
          ⟨(some 66), none, .pick (.t 62) (.t 65) (.c (.bool false))⟩,
          ⟨(some 67), none, .mv (.t 66)⟩,
          ⟨(some 68), (some (67, true)), .faddr (.t 1) 1⟩,
          ⟨(some 69), (some (67, true)), .load none (.t 68)⟩,
          ⟨(some 70), (some (67, true)), .bin .eql (.t 69) (.c (.int .i64 4))⟩,
          ⟨(some 71), none, .pick (.t 67) (.t 70) (.c (.bool false))⟩,
          ⟨(some 72), none, .mv (.t 71)⟩,
          ⟨(some 73), (some (72, true)), .faddr (.t 1) 2⟩,
          ⟨(some 74), (some (72, true)), .load none (.t 73)⟩,
          ⟨(some 75), (some (72, true)), .len false (.t 74)⟩,
          ⟨(some 76), (some (72, true)), .bin .eql (.t 75) (.c (.int .i64 2))⟩,
          ⟨(some 77), none, .pick (.t 72) (.t 76) (.c (.bool false))⟩,
          ⟨(some 78), none, .mv (.t 77)⟩,
          ⟨(some 79), (some (78, true)), .load (some 3) (.t 1)⟩,
          ⟨(some 80), (some (78, true)), .load (some 3) (.t 1)⟩,
          ⟨(some 81), (some (78, true)), .call 32 [(.t 79), (.t 80)]⟩,
          ⟨(some 82), none, .pick (.t 78) (.t 81) (.c (.bool false))⟩,
          ⟨(some 83), none, .mv (.t 82)⟩,
          ⟨(some 84), (some (83, true)), .load (some 3) (.t 1)⟩,
          ⟨(some 85), (some (83, true)), .call 33 [(.c (.int .i64 2))]⟩,
          ⟨(some 86), (some (83, true)), .call 32 [(.t 84), (.t 85)]⟩,
          ⟨(some 87), (some (83, true)), .una .not (.t 86)⟩,
          ⟨(some 88), none, .pick (.t 83) (.t 87) (.c (.bool false))⟩,
          ⟨(some 89), none, .mv (.t 88)⟩,
          ⟨(some 90), (some (89, true)), .call 33 [(.c (.int .i64 0))]⟩,
          ⟨(some 91), (some (89, true)), .fld (.t 90) 0 none⟩,
          ⟨(some 92), (some (89, true)), .bin .eql (.t 91) (.c (.int .i64 1))⟩,
          ⟨(some 93), none, .pick (.t 89) (.t 92) (.c (.bool false))⟩,
          ⟨(some 0), none, .take 93⟩])
        .ret)))))))
def ar26 : List AR := [.t 0]
theorem comp26 : Try.f26.body.bind (comp Try.prog 94) = some ac26 := by kernel_rfl
theorem cres26 : compRes Try.prog Try.f26.results.toList = some ar26 := by kernel_rfl
/-- bilander/bilanderlaw12.own -/
def ac27 : AC :=
 (.seq
  (.reg [⟨(some 1), none, .box 3 (.t 0)⟩,
    ⟨(some 2), none, .alloc [(.int .i64 0), (.int .i64 0), .nils]⟩])
  (.seq
   (.reg [⟨(some 3), none, .mv (.c .nils)⟩])
   (.seq
    (.seq
     (.reg [⟨(some 4), none, .mv (.c (.int .i64 0))⟩])
     (.block 0
      (.loop
       (.seq
        (.seq
         (.reg [⟨(some 5), none, .mv (.t 4)⟩,
           ⟨(some 6), none, .faddr (.t 1) 2⟩,
           ⟨(some 7), none, .load none (.t 6)⟩,
           ⟨(some 8), none, .len false (.t 7)⟩,
           ⟨(some 9), none, .bin .lss (.t 5) (.t 8)⟩])
         (.cond (.t 9)
          .skip
          (.exit 0)))
        (.seq
         (.block 1
          (.reg [⟨(some 12), none, .take 3⟩,
            ⟨(some 13), none, .faddr (.t 1) 2⟩,
            ⟨(some 14), none, .load none (.t 13)⟩,
            ⟨(some 15), none, .mv (.t 4)⟩,
            ⟨(some 16), none, .iaddr 3 (.t 14) (.t 15)⟩,
            ⟨(some 17), none, .load (some 3) (.t 16)⟩,
            ⟨(some 18), none, .bsl 3 1 [(.int .i64 0), (.int .i64 0), (.int .i64 0)] [(0, (.t 17))]⟩,
            ⟨(some 19), none, .app 3 24 12 (.t 18)⟩,
            ⟨(some 3), none, .take 19⟩]))
         (.reg [⟨(some 10), none, .take 4⟩,
           ⟨(some 11), none, .bin .add (.t 10) (.c (.int .i64 1))⟩,
           ⟨(some 4), none, .take 11⟩]))))))
    (.seq
     (.reg [⟨(some 20), none, .faddr (.t 1) 0⟩,
       ⟨(some 21), none, .load none (.t 20)⟩,
       ⟨(some 22), none, .faddr (.t 1) 1⟩,
       ⟨(some 23), none, .load none (.t 22)⟩,
       ⟨(some 24), none, .mv (.t 3)⟩,
       ⟨(some 25), none, .build [(.int .i64 0), (.int .i64 0), .nils] [(0, 1, (.t 21)), (1, 1, (.t 23)), (2, 1, (.t 24))]⟩,
       ⟨none, none, .store 3 (.t 2) (.t 25)⟩])
     .ret))))
def ar27 : List AR := [.c 2 (some 3)]
theorem comp27 : Try.f27.body.bind (comp Try.prog 26) = some ac27 := by kernel_rfl
theorem cres27 : compRes Try.prog Try.f27.results.toList = some ar27 := by kernel_rfl
/-- bilander/index.Add -/
def ac28 : AC :=
 (.seq
  (.reg [⟨(some 2), none, .box 3 (.t 0)⟩,
    ⟨(some 3), none, .box 3 (.t 1)⟩,
    ⟨(some 4), none, .alloc [(.int .i64 0), (.int .i64 0), .nils]⟩])
  (.seq
   (.reg [⟨(some 7), none, .faddr (.t 2) 0⟩,
     ⟨(some 8), none, .load none (.t 7)⟩,
     ⟨(some 9), none, .bin .lss (.t 8) (.c (.int .i64 1))⟩,
     ⟨(some 10), none, .take 9⟩,
     ⟨(some 11), (some (10, false)), .faddr (.t 2) 1⟩,
     ⟨(some 12), (some (10, false)), .load none (.t 11)⟩,
     ⟨(some 13), (some (10, false)), .faddr (.t 2) 0⟩,
     ⟨(some 14), (some (10, false)), .load none (.t 13)⟩,
     ⟨(some 15), (some (10, false)), .bin .rem (.t 12) (.t 14)⟩,
     ⟨(some 16), (some (10, false)), .bin .eql (.t 15) (.c (.int .i64 0))⟩,
     ⟨(some 17), none, .pick (.t 10) (.c (.bool true)) (.t 16)⟩,
     ⟨(some 5), none, .take 17⟩])
   (.seq
    (.reg [⟨(some 18), none, .faddr (.t 2) 1⟩,
      ⟨(some 19), none, .load none (.t 18)⟩,
      ⟨(some 20), none, .bin .add (.t 19) (.c (.int .i64 1))⟩,
      ⟨(some 21), none, .faddr (.t 2) 1⟩,
      ⟨none, none, .store 1 (.t 21) (.t 20)⟩])
    (.seq
     (.seq
      (.reg [⟨(some 22), none, .mv (.t 5)⟩,
        ⟨(some 23), none, .una .not (.t 22)⟩])
      (.cond (.t 23)
       (.seq
        (.reg [⟨(some 24), none, .faddr (.t 2) 2⟩,
          ⟨(some 25), none, .load none (.t 24)⟩,
          ⟨(some 26), none, .call 56 [(.t 25)]⟩,
          ⟨(some 27), none, .faddr (.t 2) 2⟩,
          ⟨none, none, .store 1 (.t 27) (.t 26)⟩])
        (.seq
         (.reg [⟨(some 28), none, .load (some 3) (.t 2)⟩,
           ⟨none, none, .store 3 (.t 4) (.t 28)⟩])
         .ret))
       .skip))
     (.seq
      (.seq
       (.reg [⟨(some 29), none, .faddr (.t 2) 2⟩,
         ⟨(some 30), none, .load none (.t 29)⟩,
         ⟨(some 31), none, .len false (.t 30)⟩,
         ⟨(some 6), none, .take 31⟩])
       (.seq
        (.reg [⟨(some 32), none, .mv (.t 6)⟩,
          ⟨(some 33), none, .bin .gtr (.t 32) (.c (.int .i64 0))⟩])
        (.cond (.t 33)
         (.dreg [] [⟨(some 34), none, .faddr (.t 3) 1⟩,
           ⟨(some 35), none, .load none (.t 34)⟩,
           ⟨(some 36), none, .faddr (.t 2) 2⟩,
           ⟨(some 37), none, .load none (.t 36)⟩,
           ⟨(some 38), none, .mv (.t 6)⟩,
           ⟨(some 39), none, .bin .sub (.t 38) (.c (.int .i64 1))⟩,
           ⟨(some 40), none, .iaddr 3 (.t 37) (.t 39)⟩,
           ⟨(some 41), none, .faddr (.t 40) 1⟩,
           ⟨(some 42), none, .load none (.t 41)⟩,
           ⟨(some 43), none, .minmax true (.t 35) (.t 42)⟩,
           ⟨(some 44), none, .faddr (.t 3) 1⟩,
           ⟨none, none, .store 1 (.t 44) (.t 43)⟩])
         .skip)))
      (.seq
       (.dreg [] [⟨(some 45), none, .faddr (.t 2) 2⟩,
         ⟨(some 46), none, .load none (.t 45)⟩,
         ⟨(some 47), none, .call 56 [(.t 46)]⟩,
         ⟨(some 48), none, .load (some 3) (.t 3)⟩,
         ⟨(some 49), none, .bsl 3 1 [(.int .i64 0), (.int .i64 0), (.int .i64 0)] [(0, (.t 48))]⟩,
         ⟨(some 50), none, .app 3 24 47 (.t 49)⟩,
         ⟨(some 51), none, .faddr (.t 2) 2⟩,
         ⟨none, none, .store 1 (.t 51) (.t 50)⟩])
       (.seq
        (.reg [⟨(some 52), none, .load (some 3) (.t 2)⟩,
          ⟨none, none, .store 3 (.t 4) (.t 52)⟩])
        .ret)))))))
def ar28 : List AR := [.c 4 (some 3)]
theorem comp28 : Try.f28.body.bind (comp Try.prog 53) = some ac28 := by kernel_rfl
theorem cres28 : compRes Try.prog Try.f28.results.toList = some ar28 := by kernel_rfl
/-- bilander/bilanderref12.Same -/
def ac29 : AC :=
 (.seq
  (.reg [⟨(some 2), none, .box 3 (.t 0)⟩,
    ⟨(some 3), none, .box 3 (.t 1)⟩,
    ⟨(some 4), none, .mv (.c (.bool false))⟩])
  (.seq
   (.seq
    (.reg [⟨(some 6), none, .faddr (.t 2) 0⟩,
      ⟨(some 7), none, .load none (.t 6)⟩,
      ⟨(some 8), none, .faddr (.t 3) 0⟩,
      ⟨(some 9), none, .load none (.t 8)⟩,
      ⟨(some 10), none, .bin .neq (.t 7) (.t 9)⟩,
      ⟨(some 11), none, .take 10⟩,
      ⟨(some 12), (some (11, false)), .faddr (.t 2) 1⟩,
      ⟨(some 13), (some (11, false)), .load none (.t 12)⟩,
      ⟨(some 14), (some (11, false)), .faddr (.t 3) 1⟩,
      ⟨(some 15), (some (11, false)), .load none (.t 14)⟩,
      ⟨(some 16), (some (11, false)), .bin .neq (.t 13) (.t 15)⟩,
      ⟨(some 17), none, .pick (.t 11) (.c (.bool true)) (.t 16)⟩,
      ⟨(some 18), none, .take 17⟩,
      ⟨(some 19), (some (18, false)), .faddr (.t 2) 2⟩,
      ⟨(some 20), (some (18, false)), .load none (.t 19)⟩,
      ⟨(some 21), (some (18, false)), .len false (.t 20)⟩,
      ⟨(some 22), (some (18, false)), .faddr (.t 3) 2⟩,
      ⟨(some 23), (some (18, false)), .load none (.t 22)⟩,
      ⟨(some 24), (some (18, false)), .len false (.t 23)⟩,
      ⟨(some 25), (some (18, false)), .bin .neq (.t 21) (.t 24)⟩,
      ⟨(some 26), none, .pick (.t 18) (.c (.bool true)) (.t 25)⟩])
    (.cond (.t 26)
     (.seq
      (.reg [⟨(some 4), none, .mv (.c (.bool false))⟩])
      .ret)
     .skip))
   (.seq
    (.seq
     (.reg [⟨(some 5), none, .mv (.c (.int .i64 0))⟩])
     (.block 0
      (.loop
       (.seq
        (.seq
         (.reg [⟨(some 27), none, .mv (.t 5)⟩,
           ⟨(some 28), none, .faddr (.t 2) 2⟩,
           ⟨(some 29), none, .load none (.t 28)⟩,
           ⟨(some 30), none, .len false (.t 29)⟩,
           ⟨(some 31), none, .bin .lss (.t 27) (.t 30)⟩])
         (.cond (.t 31)
          .skip
          (.exit 0)))
        (.seq
         (.block 1
          (.seq
           (.dreg [] [⟨(some 34), none, .faddr (.t 2) 2⟩,
             ⟨(some 35), none, .load none (.t 34)⟩,
             ⟨(some 36), none, .mv (.t 5)⟩,
             ⟨(some 37), none, .iaddr 3 (.t 35) (.t 36)⟩,
             ⟨(some 38), none, .load (some 3) (.t 37)⟩,
             ⟨(some 39), none, .faddr (.t 3) 2⟩,
             ⟨(some 40), none, .load none (.t 39)⟩,
             ⟨(some 41), none, .mv (.t 5)⟩,
             ⟨(some 42), none, .iaddr 3 (.t 40) (.t 41)⟩,
             ⟨(some 43), none, .load (some 3) (.t 42)⟩,
             ⟨(some 44), none, .eqs [1, 1, 1] true (.t 38) (.t 43)⟩])
           (.cond (.t 44)
            (.seq
             (.reg [⟨(some 4), none, .mv (.c (.bool false))⟩])
             .ret)
            .skip)))
         (.reg [⟨(some 32), none, .take 5⟩,
           ⟨(some 33), none, .bin .add (.t 32) (.c (.int .i64 1))⟩,
           ⟨(some 5), none, .take 33⟩]))))))
    (.seq
     (.reg [⟨(some 4), none, .mv (.c (.bool true))⟩])
     .ret))))
def ar29 : List AR := [.t 4]
theorem comp29 : Try.f29.body.bind (comp Try.prog 45) = some ac29 := by kernel_rfl
theorem cres29 : compRes Try.prog Try.f29.results.toList = some ar29 := by kernel_rfl
/-- bilander/bilanderlaw12.as -/
def ac30 : AC :=
 (.seq
  (.reg [⟨(some 1), none, .box 3 (.t 0)⟩,
    ⟨(some 2), none, .alloc [(.int .i64 0), (.int .i64 0), .nils]⟩])
  (.seq
   (.reg [⟨(some 3), none, .mv (.c .nils)⟩])
   (.seq
    (.seq
     (.reg [⟨(some 4), none, .mv (.c (.int .i64 0))⟩])
     (.block 0
      (.loop
       (.seq
        (.seq
         (.reg [⟨(some 5), none, .mv (.t 4)⟩,
           ⟨(some 6), none, .faddr (.t 1) 2⟩,
           ⟨(some 7), none, .load none (.t 6)⟩,
           ⟨(some 8), none, .len false (.t 7)⟩,
           ⟨(some 9), none, .bin .lss (.t 5) (.t 8)⟩])
         (.cond (.t 9)
          .skip
          (.exit 0)))
        (.seq
         (.block 1
          (.reg [⟨(some 12), none, .take 3⟩,
            ⟨(some 13), none, .faddr (.t 1) 2⟩,
            ⟨(some 14), none, .load none (.t 13)⟩,
            ⟨(some 15), none, .mv (.t 4)⟩,
            ⟨(some 16), none, .iaddr 3 (.t 14) (.t 15)⟩,
            ⟨(some 17), none, .load (some 3) (.t 16)⟩,
            ⟨(some 18), none, .bsl 3 1 [(.int .i64 0), (.int .i64 0), (.int .i64 0)] [(0, (.t 17))]⟩,
            ⟨(some 19), none, .app 3 24 12 (.t 18)⟩,
            ⟨(some 3), none, .take 19⟩]))
         (.reg [⟨(some 10), none, .take 4⟩,
           ⟨(some 11), none, .bin .add (.t 10) (.c (.int .i64 1))⟩,
           ⟨(some 4), none, .take 11⟩]))))))
    (.seq
     (.reg [⟨(some 20), none, .faddr (.t 1) 0⟩,
       ⟨(some 21), none, .load none (.t 20)⟩,
       ⟨(some 22), none, .faddr (.t 1) 1⟩,
       ⟨(some 23), none, .load none (.t 22)⟩,
       ⟨(some 24), none, .mv (.t 3)⟩,
       ⟨(some 25), none, .build [(.int .i64 0), (.int .i64 0), .nils] [(0, 1, (.t 21)), (1, 1, (.t 23)), (2, 1, (.t 24))]⟩,
       ⟨none, none, .store 3 (.t 2) (.t 25)⟩])
     .ret))))
def ar30 : List AR := [.c 2 (some 3)]
theorem comp30 : Try.f30.body.bind (comp Try.prog 26) = some ac30 := by kernel_rfl
theorem cres30 : compRes Try.prog Try.f30.results.toList = some ar30 := by kernel_rfl
/-- bilander/bilanderref12.Add -/
def ac31 : AC :=
 (.seq
  (.reg [⟨(some 2), none, .box 3 (.t 0)⟩,
    ⟨(some 3), none, .box 3 (.t 1)⟩,
    ⟨(some 4), none, .alloc [(.int .i64 0), (.int .i64 0), .nils]⟩])
  (.seq
   (.reg [⟨(some 8), none, .faddr (.t 2) 2⟩,
     ⟨(some 9), none, .load none (.t 8)⟩,
     ⟨(some 10), none, .len false (.t 9)⟩,
     ⟨(some 5), none, .take 10⟩])
   (.seq
    (.reg [⟨(some 11), none, .faddr (.t 2) 0⟩,
      ⟨(some 12), none, .load none (.t 11)⟩,
      ⟨(some 13), none, .bin .lss (.t 12) (.c (.int .i64 1))⟩,
      ⟨(some 14), none, .take 13⟩,
      ⟨(some 15), (some (14, false)), .faddr (.t 2) 1⟩,
      ⟨(some 16), (some (14, false)), .load none (.t 15)⟩,
      ⟨(some 17), (some (14, false)), .faddr (.t 2) 0⟩,
      ⟨(some 18), (some (14, false)), .load none (.t 17)⟩,
      ⟨(some 19), (some (14, false)), .bin .rem (.t 16) (.t 18)⟩,
      ⟨(some 20), (some (14, false)), .bin .eql (.t 19) (.c (.int .i64 0))⟩,
      ⟨(some 21), none, .pick (.t 14) (.c (.bool true)) (.t 20)⟩,
      ⟨(some 6), none, .take 21⟩])
    (.seq
     (.reg [⟨(some 22), none, .faddr (.t 2) 1⟩,
       ⟨(some 23), none, .load none (.t 22)⟩,
       ⟨(some 24), none, .bin .add (.t 23) (.c (.int .i64 1))⟩,
       ⟨(some 25), none, .faddr (.t 2) 1⟩,
       ⟨none, none, .store 1 (.t 25) (.t 24)⟩])
     (.seq
      (.seq
       (.reg [⟨(some 26), none, .mv (.t 6)⟩,
         ⟨(some 27), none, .una .not (.t 26)⟩])
       (.cond (.t 27)
        (.seq
         (.reg [⟨(some 28), none, .load (some 3) (.t 2)⟩,
           ⟨none, none, .store 3 (.t 4) (.t 28)⟩])
         .ret)
        .skip))
      (.seq
       (.seq
        (.reg [⟨(some 29), none, .mv (.t 5)⟩,
          ⟨(some 30), none, .bin .gtr (.t 29) (.c (.int .i64 0))⟩])
        (.cond (.t 30)
         (.dreg [] [⟨(some 31), none, .faddr (.t 3) 1⟩,
           ⟨(some 32), none, .load none (.t 31)⟩,
           ⟨(some 33), none, .faddr (.t 2) 2⟩,
           ⟨(some 34), none, .load none (.t 33)⟩,
           ⟨(some 35), none, .mv (.t 5)⟩,
           ⟨(some 36), none, .bin .sub (.t 35) (.c (.int .i64 1))⟩,
           ⟨(some 37), none, .iaddr 3 (.t 34) (.t 36)⟩,
           ⟨(some 38), none, .faddr (.t 37) 1⟩,
           ⟨(some 39), none, .load none (.t 38)⟩,
           ⟨(some 40), none, .minmax true (.t 32) (.t 39)⟩,
           ⟨(some 41), none, .faddr (.t 3) 1⟩,
           ⟨none, none, .store 1 (.t 41) (.t 40)⟩])
         .skip))
       (.seq
        (.reg [⟨(some 7), none, .mv (.c .nils)⟩])
        (.seq
         (.dreg [] [⟨(some 42), none, .mv (.t 7)⟩,
           ⟨(some 43), none, .faddr (.t 2) 2⟩,
           ⟨(some 44), none, .load none (.t 43)⟩,
           ⟨(some 45), none, .app 3 24 42 (.t 44)⟩,
           ⟨(some 46), none, .load (some 3) (.t 3)⟩,
           ⟨(some 47), none, .bsl 3 1 [(.int .i64 0), (.int .i64 0), (.int .i64 0)] [(0, (.t 46))]⟩,
           ⟨(some 48), none, .app 3 24 45 (.t 47)⟩,
           ⟨(some 49), none, .faddr (.t 2) 2⟩,
           ⟨none, none, .store 1 (.t 49) (.t 48)⟩])
         (.seq
          (.reg [⟨(some 50), none, .load (some 3) (.t 2)⟩,
            ⟨none, none, .store 3 (.t 4) (.t 50)⟩])
          .ret)))))))))
def ar31 : List AR := [.c 4 (some 3)]
theorem comp31 : Try.f31.body.bind (comp Try.prog 51) = some ac31 := by kernel_rfl
theorem cres31 : compRes Try.prog Try.f31.results.toList = some ar31 := by kernel_rfl
/-- bilander/index.Same -/
def ac32 : AC :=
 (.seq
  (.reg [⟨(some 2), none, .box 3 (.t 0)⟩,
    ⟨(some 3), none, .box 3 (.t 1)⟩,
    ⟨(some 4), none, .mv (.c (.bool false))⟩])
  (.seq
   (.reg [⟨(some 5), none, .faddr (.t 2) 0⟩,
     ⟨(some 6), none, .load none (.t 5)⟩,
     ⟨(some 7), none, .faddr (.t 3) 0⟩,
     ⟨(some 8), none, .load none (.t 7)⟩,
     ⟨(some 9), none, .bin .eql (.t 6) (.t 8)⟩,
     ⟨(some 10), none, .take 9⟩,
     ⟨(some 11), (some (10, true)), .faddr (.t 2) 1⟩,
     ⟨(some 12), (some (10, true)), .load none (.t 11)⟩,
     ⟨(some 13), (some (10, true)), .faddr (.t 3) 1⟩,
     ⟨(some 14), (some (10, true)), .load none (.t 13)⟩,
     ⟨(some 15), (some (10, true)), .bin .eql (.t 12) (.t 14)⟩,
     ⟨(some 16), none, .pick (.t 10) (.t 15) (.c (.bool false))⟩,
     ⟨(some 17), none, .take 16⟩,
     ⟨(some 18), (some (17, true)), .faddr (.t 2) 2⟩,
     ⟨(some 19), (some (17, true)), .load none (.t 18)⟩,
     ⟨(some 20), (some (17, true)), .faddr (.t 3) 2⟩,
     ⟨(some 21), (some (17, true)), .load none (.t 20)⟩,
     ⟨(some 22), (some (17, true)), .call 57 [(.t 19), (.t 21)]⟩,
     ⟨(some 23), none, .pick (.t 17) (.t 22) (.c (.bool false))⟩,
     ⟨(some 4), none, .take 23⟩])
   .ret))
def ar32 : List AR := [.t 4]
theorem comp32 : Try.f32.body.bind (comp Try.prog 24) = some ac32 := by kernel_rfl
theorem cres32 : compRes Try.prog Try.f32.results.toList = some ar32 := by kernel_rfl
/-- bilander/index.New -/
def ac33 : AC :=
 (.seq
  (.reg [⟨(some 2), none, .alloc [(.int .i64 0), (.int .i64 0), .nils]⟩])
  (.seq
   (.reg [⟨(some 3), none, .mv (.t 0)⟩,
     ⟨(some 4), none, .minmax true (.t 3) (.c (.int .i64 1))⟩,
     ⟨(some 5), none, .build [(.int .i64 0), (.int .i64 0), .nils] [(0, 1, (.t 4))]⟩,
     ⟨none, none, .store 3 (.t 2) (.t 5)⟩])
   .ret))
def ar33 : List AR := [.c 2 (some 3)]
theorem comp33 : Try.f33.body.bind (comp Try.prog 6) = some ac33 := by kernel_rfl
theorem cres33 : compRes Try.prog Try.f33.results.toList = some ar33 := by kernel_rfl
/-- bilander/bilanderref12.New -/
def ac34 : AC :=
 (.seq
  (.reg [⟨(some 2), none, .alloc [(.int .i64 0), (.int .i64 0), .nils]⟩])
  (.seq
   (.reg [⟨(some 3), none, .mv (.t 0)⟩,
     ⟨(some 4), none, .minmax true (.c (.int .i64 1)) (.t 3)⟩,
     ⟨(some 5), none, .build [(.int .i64 0), (.int .i64 0), .nils] [(0, 1, (.t 4))]⟩,
     ⟨none, none, .store 3 (.t 2) (.t 5)⟩])
   .ret))
def ar34 : List AR := [.c 2 (some 3)]
theorem comp34 : Try.f34.body.bind (comp Try.prog 6) = some ac34 := by kernel_rfl
theorem cres34 : compRes Try.prog Try.f34.results.toList = some ar34 := by kernel_rfl
/-- bilander/index.Build -/
def ac35 : AC :=
 (.seq
  (.reg [⟨(some 4), none, .alloc [(.int .i64 0), (.int .i64 0), .nils]⟩])
  (.seq
   (.reg [⟨(some 8), none, .mv (.t 0)⟩,
     ⟨(some 9), none, .call 33 [(.t 8)]⟩,
     ⟨(some 5), none, .alloc [(.int .i64 0), (.int .i64 0), .nils]⟩,
     ⟨none, none, .store 3 (.t 5) (.t 9)⟩])
   (.seq
    (.seq
     (.reg [⟨(some 10), none, .mv (.t 1)⟩,
       ⟨(some 11), none, .len false (.t 10)⟩,
       ⟨(some 12), none, .mv (.c (.int .i64 0))⟩])
     (.block 0
      (.loop
       (.seq
        (.reg [⟨(some 13), none, .bin .lss (.t 12) (.t 11)⟩])
        (.seq
         (.cond (.t 13)
          .skip
          (.exit 0))
         (.seq
          (.block 1
           (.seq
            (.reg [⟨(some 14), none, .iaddr 3 (.t 10) (.t 12)⟩,
              ⟨(some 15), none, .load (some 3) (.t 14)⟩,
              ⟨(some 7), none, .alloc [(.int .i64 0), (.int .i64 0), (.int .i64 0)]⟩,
              ⟨none, none, .store 3 (.t 7) (.t 15)⟩])
            (.reg [⟨(some 16), none, .load (some 3) (.t 5)⟩,
              ⟨(some 17), none, .load (some 3) (.t 7)⟩,
              ⟨(some 18), none, .call 28 [(.t 16), (.t 17)]⟩,
              ⟨none, none, .store 3 (.t 5) (.t 18)⟩])))
          (.reg [⟨(some 19), none, .bin .add (.t 12) (.c (.int .i64 1))⟩,
            ⟨(some 12), none, .take 19⟩])))))))
    (.seq
     (.reg [⟨(some 20), none, .load (some 3) (.t 5)⟩,
       ⟨none, none, .store 3 (.t 4) (.t 20)⟩])
     .ret))))
def ar35 : List AR := [.c 4 (some 3)]
theorem comp35 : Try.f35.body.bind (comp Try.prog 21) = some ac35 := by kernel_rfl
theorem cres35 : compRes Try.prog Try.f35.results.toList = some ar35 := by kernel_rfl
/-- bilander/bilanderref12.Build -/
def ac36 : AC :=
 (.seq
  (.reg [⟨(some 4), none, .alloc [(.int .i64 0), (.int .i64 0), .nils]⟩])
  (.seq
   (.reg [⟨(some 7), none, .mv (.t 0)⟩,
     ⟨(some 8), none, .call 34 [(.t 7)]⟩,
     ⟨(some 5), none, .alloc [(.int .i64 0), (.int .i64 0), .nils]⟩,
     ⟨none, none, .store 3 (.t 5) (.t 8)⟩])
   (.seq
    (.seq
     (.reg [⟨(some 6), none, .mv (.c (.int .i64 0))⟩])
     (.block 0
      (.loop
       (.seq
        (.seq
         (.reg [⟨(some 9), none, .mv (.t 6)⟩,
           ⟨(some 10), none, .mv (.t 1)⟩,
           ⟨(some 11), none, .len false (.t 10)⟩,
           ⟨(some 12), none, .bin .lss (.t 9) (.t 11)⟩])
         (.cond (.t 12)
          .skip
          (.exit 0)))
        (.seq
         (.block 1
          (.dreg [] [⟨(some 15), none, .load (some 3) (.t 5)⟩,
            ⟨(some 16), none, .mv (.t 1)⟩,
            ⟨(some 17), none, .mv (.t 6)⟩,
            ⟨(some 18), none, .iaddr 3 (.t 16) (.t 17)⟩,
            ⟨(some 19), none, .load (some 3) (.t 18)⟩,
            ⟨(some 20), none, .call 31 [(.t 15), (.t 19)]⟩,
            ⟨none, none, .store 3 (.t 5) (.t 20)⟩]))
         (.reg [⟨(some 13), none, .take 6⟩,
           ⟨(some 14), none, .bin .add (.t 13) (.c (.int .i64 1))⟩,
           ⟨(some 6), none, .take 14⟩]))))))
    (.seq
     (.reg [⟨(some 21), none, .load (some 3) (.t 5)⟩,
       ⟨none, none, .store 3 (.t 4) (.t 21)⟩])
     .ret))))
def ar36 : List AR := [.c 4 (some 3)]
theorem comp36 : Try.f36.body.bind (comp Try.prog 22) = some ac36 := by kernel_rfl
theorem cres36 : compRes Try.prog Try.f36.results.toList = some ar36 := by kernel_rfl
/-- bilander/index.ByTime -/
def ac37 : AC :=
 (.seq
  (.reg [⟨(some 2), none, .box 3 (.t 0)⟩,
    ⟨(some 3), none, .box 1 (.t 1)⟩,
    ⟨(some 4), none, .alloc [(.int .i64 0), (.int .i64 0), (.int .i64 0)]⟩,
    ⟨(some 5), none, .alloc [(.bool false)]⟩])
  (.seq
   (.seq
    (.reg [⟨(some 8), none, .faddr (.t 2) 2⟩,
      ⟨(some 9), none, .load none (.t 8)⟩,
      ⟨(some 10), none, .call 58 [(.t 9)]⟩])
    (.block 0
     (.rfunc (.t 10) [11, 12]
      (.reg [⟨(some 7), none, .alloc [(.int .i64 0), (.int .i64 0), (.int .i64 0)]⟩,
        ⟨none, none, .store 3 (.t 7) (.t 12)⟩])
      (.block 1
       (.seq
        (.reg [⟨(some 13), none, .faddr (.t 7) 1⟩,
          ⟨(some 14), none, .load none (.t 13)⟩,
          ⟨(some 15), none, .load none (.t 3)⟩,
          ⟨(some 16), none, .bin .lss (.t 14) (.t 15)⟩])
        (.cond (.t 16)
         (.seq
          (.reg [⟨(some 17), none, .load (some 3) (.t 7)⟩,
            ⟨none, none, .store 3 (.t 4) (.t 17)⟩,
            ⟨none, none, .store 1 (.t 5) (.c (.bool true))⟩])
          .ret)
         .skip))))))
   (.seq
    (.reg [⟨(some 18), none, .build [(.int .i64 0), (.int .i64 0), (.int .i64 0)] []⟩,
      ⟨none, none, .store 3 (.t 4) (.t 18)⟩,
      ⟨none, none, .store 1 (.t 5) (.c (.bool false))⟩])
    .ret)))
def ar37 : List AR := [.c 4 (some 3), .c 5 none]
theorem comp37 : Try.f37.body.bind (comp Try.prog 19) = some ac37 := by kernel_rfl
theorem cres37 : compRes Try.prog Try.f37.results.toList = some ar37 := by kernel_rfl
/-- bilander/bilanderref12.ByTime -/
def ac38 : AC :=
 (.seq
  (.reg [⟨(some 2), none, .box 3 (.t 0)⟩,
    ⟨(some 4), none, .alloc [(.int .i64 0), (.int .i64 0), (.int .i64 0)]⟩,
    ⟨(some 5), none, .mv (.c (.bool false))⟩])
  (.seq
   (.seq
    (.reg [⟨(some 7), none, .faddr (.t 2) 2⟩,
      ⟨(some 8), none, .load none (.t 7)⟩,
      ⟨(some 9), none, .len false (.t 8)⟩,
      ⟨(some 10), none, .bin .sub (.t 9) (.c (.int .i64 1))⟩,
      ⟨(some 6), none, .take 10⟩])
    (.block 0
     (.loop
      (.seq
       (.seq
        (.reg [⟨(some 11), none, .mv (.t 6)⟩,
          ⟨(some 12), none, .bin .geq (.t 11) (.c (.int .i64 0))⟩])
        (.cond (.t 12)
         .skip
         (.exit 0)))
       (.seq
        (.block 1
         (.seq
          (.reg [⟨(some 15), none, .faddr (.t 2) 2⟩,
            ⟨(some 16), none, .load none (.t 15)⟩,
            ⟨(some 17), none, .mv (.t 6)⟩,
            ⟨(some 18), none, .iaddr 3 (.t 16) (.t 17)⟩,
            ⟨(some 19), none, .faddr (.t 18) 1⟩,
            ⟨(some 20), none, .load none (.t 19)⟩,
            ⟨(some 21), none, .mv (.t 1)⟩,
            ⟨(some 22), none, .bin .lss (.t 20) (.t 21)⟩])
          (.cond (.t 22)
           (.seq
            (.reg [⟨(some 23), none, .faddr (.t 2) 2⟩,
              ⟨(some 24), none, .load none (.t 23)⟩,
              ⟨(some 25), none, .mv (.t 6)⟩,
              ⟨(some 26), none, .iaddr 3 (.t 24) (.t 25)⟩,
              ⟨(some 27), none, .load (some 3) (.t 26)⟩,
              ⟨none, none, .store 3 (.t 4) (.t 27)⟩,
              ⟨(some 5), none, .mv (.c (.bool true))⟩])
            .ret)
           .skip)))
        (.reg [⟨(some 13), none, .take 6⟩,
          ⟨(some 14), none, .bin .sub (.t 13) (.c (.int .i64 1))⟩,
          ⟨(some 6), none, .take 14⟩]))))))
   (.seq
    (.reg [⟨(some 28), none, .build [(.int .i64 0), (.int .i64 0), (.int .i64 0)] []⟩,
      ⟨none, none, .store 3 (.t 4) (.t 28)⟩,
      ⟨(some 5), none, .mv (.c (.bool false))⟩])
    .ret)))
def ar38 : List AR := [.c 4 (some 3), .t 5]
theorem comp38 : Try.f38.body.bind (comp Try.prog 29) = some ac38 := by kernel_rfl
theorem cres38 : compRes Try.prog Try.f38.results.toList = some ar38 := by kernel_rfl
/-- bilander/index.Find -/
def ac39 : AC :=
 (.seq
  (.reg [⟨(some 2), none, .box 3 (.t 0)⟩,
    ⟨(some 3), none, .box 1 (.t 1)⟩,
    ⟨(some 4), none, .alloc [(.int .i64 0), (.int .i64 0), (.int .i64 0)]⟩,
    ⟨(some 5), none, .mv (.c (.bool false))⟩])
  (.seq
   (.seq
    (.frz [2, 3])
    (.reg [⟨(some 7), none, .faddr (.t 2) 2⟩,
      ⟨(some 8), none, .load none (.t 7)⟩,
      ⟨(some 9), none, .len false (.t 8)⟩,
      ⟨(some 10), none, .mkfn 60 [] [(.t 2), (.t 3)]⟩,
      ⟨(some 11), none, .call 59 [(.t 9), (.t 10)]⟩,
      ⟨(some 6), none, .take 11⟩]))
   (.seq
    (.seq
     (.reg [⟨(some 12), none, .mv (.t 6)⟩,
       ⟨(some 13), none, .bin .eql (.t 12) (.c (.int .i64 0))⟩])
     (.cond (.t 13)
      (.seq
       (.reg [⟨(some 14), none, .build [(.int .i64 0), (.int .i64 0), (.int .i64 0)] []⟩,
         ⟨none, none, .store 3 (.t 4) (.t 14)⟩,
         ⟨(some 5), none, .mv (.c (.bool false))⟩])
       .ret)
      .skip))
    (.seq
     (.reg [⟨(some 15), none, .faddr (.t 2) 2⟩,
       ⟨(some 16), none, .load none (.t 15)⟩,
       ⟨(some 17), none, .mv (.t 6)⟩,
       ⟨(some 18), none, .bin .sub (.t 17) (.c (.int .i64 1))⟩,
       ⟨(some 19), none, .iaddr 3 (.t 16) (.t 18)⟩,
       ⟨(some 20), none, .load (some 3) (.t 19)⟩,
       ⟨none, none, .store 3 (.t 4) (.t 20)⟩,
       ⟨(some 5), none, .mv (.c (.bool true))⟩])
     .ret))))
def ar39 : List AR := [.c 4 (some 3), .t 5]
theorem comp39 : Try.f39.body.bind (comp Try.prog 21) = some ac39 := by kernel_rfl
theorem cres39 : compRes Try.prog Try.f39.results.toList = some ar39 := by kernel_rfl
/-- bilander/bilanderref12.Rising -/
def ac40 : AC :=
 (.seq
  (.reg [⟨(some 2), none, .mv (.c (.bool false))⟩])
  (.seq
   (.seq
    (.reg [⟨(some 3), none, .mv (.c (.int .i64 1))⟩])
    (.block 0
     (.loop
      (.seq
       (.seq
        (.reg [⟨(some 4), none, .mv (.t 3)⟩,
          ⟨(some 5), none, .mv (.t 0)⟩,
          ⟨(some 6), none, .len false (.t 5)⟩,
          ⟨(some 7), none, .bin .lss (.t 4) (.t 6)⟩])
        (.cond (.t 7)
         .skip
         (.exit 0)))
       (.seq
        (.block 1
         (.seq
          (.dreg [] [⟨(some 10), none, .mv (.t 0)⟩,
            ⟨(some 11), none, .mv (.t 3)⟩,
            ⟨(some 12), none, .bin .sub (.t 11) (.c (.int .i64 1))⟩,
            ⟨(some 13), none, .iaddr 3 (.t 10) (.t 12)⟩,
            ⟨(some 14), none, .faddr (.t 13) 0⟩,
            ⟨(some 15), none, .load none (.t 14)⟩,
            ⟨(some 16), none, .mv (.t 0)⟩,
            ⟨(some 17), none, .mv (.t 3)⟩,
            ⟨(some 18), none, .iaddr 3 (.t 16) (.t 17)⟩,
            ⟨(some 19), none, .faddr (.t 18) 0⟩,
            ⟨(some 20), none, .load none (.t 19)⟩,
            ⟨(some 21), none, .bin .gtr (.t 15) (.t 20)⟩])
          (.cond (.t 21)
           (.seq
            (.reg [⟨(some 2), none, .mv (.c (.bool false))⟩])
            .ret)
           .skip)))
        (.reg [⟨(some 8), none, .take 3⟩,
          ⟨(some 9), none, .bin .add (.t 8) (.c (.int .i64 1))⟩,
          ⟨(some 3), none, .take 9⟩]))))))
   (.seq
    (.reg [⟨(some 2), none, .mv (.c (.bool true))⟩])
    .ret)))
def ar40 : List AR := [.t 2]
theorem comp40 : Try.f40.body.bind (comp Try.prog 22) = some ac40 := by kernel_rfl
theorem cres40 : compRes Try.prog Try.f40.results.toList = some ar40 := by kernel_rfl
/-- bilander/bilanderref12.Find -/
def ac41 : AC :=
 (.seq
  (.reg [⟨(some 2), none, .box 3 (.t 0)⟩,
    ⟨(some 4), none, .alloc [(.int .i64 0), (.int .i64 0), (.int .i64 0)]⟩,
    ⟨(some 5), none, .mv (.c (.bool false))⟩])
  (.seq
   (.seq
    (.reg [⟨(some 7), none, .faddr (.t 2) 2⟩,
      ⟨(some 8), none, .load none (.t 7)⟩,
      ⟨(some 9), none, .len false (.t 8)⟩,
      ⟨(some 10), none, .bin .sub (.t 9) (.c (.int .i64 1))⟩,
      ⟨(some 6), none, .take 10⟩])
    (.block 0
     (.loop
      (.seq
       (.seq
        (.reg [⟨(some 11), none, .mv (.t 6)⟩,
          ⟨(some 12), none, .bin .geq (.t 11) (.c (.int .i64 0))⟩])
        (.cond (.t 12)
         .skip
         (.exit 0)))
       (.seq
        (.block 1
         (.seq
          (.reg [⟨(some 15), none, .faddr (.t 2) 2⟩,
            ⟨(some 16), none, .load none (.t 15)⟩,
            ⟨(some 17), none, .mv (.t 6)⟩,
            ⟨(some 18), none, .iaddr 3 (.t 16) (.t 17)⟩,
            ⟨(some 19), none, .faddr (.t 18) 0⟩,
            ⟨(some 20), none, .load none (.t 19)⟩,
            ⟨(some 21), none, .mv (.t 1)⟩,
            ⟨(some 22), none, .bin .leq (.t 20) (.t 21)⟩])
          (.cond (.t 22)
           (.seq
            (.reg [⟨(some 23), none, .faddr (.t 2) 2⟩,
              ⟨(some 24), none, .load none (.t 23)⟩,
              ⟨(some 25), none, .mv (.t 6)⟩,
              ⟨(some 26), none, .iaddr 3 (.t 24) (.t 25)⟩,
              ⟨(some 27), none, .load (some 3) (.t 26)⟩,
              ⟨none, none, .store 3 (.t 4) (.t 27)⟩,
              ⟨(some 5), none, .mv (.c (.bool true))⟩])
            .ret)
           .skip)))
        (.reg [⟨(some 13), none, .take 6⟩,
          ⟨(some 14), none, .bin .sub (.t 13) (.c (.int .i64 1))⟩,
          ⟨(some 6), none, .take 14⟩]))))))
   (.seq
    (.reg [⟨(some 28), none, .build [(.int .i64 0), (.int .i64 0), (.int .i64 0)] []⟩,
      ⟨none, none, .store 3 (.t 4) (.t 28)⟩,
      ⟨(some 5), none, .mv (.c (.bool false))⟩])
    .ret)))
def ar41 : List AR := [.c 4 (some 3), .t 5]
theorem comp41 : Try.f41.body.bind (comp Try.prog 29) = some ac41 := by kernel_rfl
theorem cres41 : compRes Try.prog Try.f41.results.toList = some ar41 := by kernel_rfl
/-- slices.Clone[[]bilander/index.Entry,bilander/index.Entry] -/
def ac56 : AC :=
 (.seq
  (.reg [⟨(some 2), none, .mv (.c .nils)⟩])
  (.seq
   (.seq
    (.reg [⟨(some 3), none, .mv (.t 0)⟩,
      ⟨(some 4), none, .eqn true false (.t 3)⟩])
    (.cond (.t 4)
     (.seq
      (.reg [⟨(some 2), none, .mv (.c .nils)⟩])
      .ret)
     .skip))
   (.seq
    (.reg [⟨(some 5), none, .bsl 3 0 [(.int .i64 0), (.int .i64 0), (.int .i64 0)] []⟩,
      ⟨(some 6), none, .mv (.t 0)⟩,
      ⟨(some 7), none, .app 3 24 5 (.t 6)⟩,
      ⟨(some 2), none, .take 7⟩])
    .ret)))
def ar56 : List AR := [.t 2]
theorem comp56 : Try.f56.body.bind (comp Try.prog 8) = some ac56 := by kernel_rfl
theorem cres56 : compRes Try.prog Try.f56.results.toList = some ar56 := by kernel_rfl
/-- slices.Equal[[]bilander/index.Entry,bilander/index.Entry] -/
def ac57 : AC :=
 (.seq
  (.reg [⟨(some 4), none, .mv (.c (.bool false))⟩])
  (.seq
   (.seq
    (.reg [⟨(some 6), none, .mv (.t 0)⟩,
      ⟨(some 7), none, .len false (.t 6)⟩,
      ⟨(some 8), none, .mv (.t 1)⟩,
      ⟨(some 9), none, .len false (.t 8)⟩,
      ⟨(some 10), none, .bin .neq (.t 7) (.t 9)⟩])
    (.cond (.t 10)
     (.seq
      (.reg [⟨(some 4), none, .mv (.c (.bool false))⟩])
      .ret)
     .skip))
   (.seq
    (.seq
     (.reg [⟨(some 11), none, .mv (.t 0)⟩,
       ⟨(some 12), none, .len false (.t 11)⟩,
       ⟨(some 13), none, .mv (.c (.int .i64 0))⟩])
     (.block 0
      (.loop
       (.seq
        (.reg [⟨(some 14), none, .bin .lss (.t 13) (.t 12)⟩])
        (.seq
         (.cond (.t 14)
          .skip
          (.exit 0))
         (.seq
          (.block 1
           (.seq
            (.reg [⟨(some 15), none, .take 13⟩,
              ⟨(some 5), none, .take 15⟩])
            (.seq
             (.dreg [] [⟨(some 16), none, .mv (.t 0)⟩,
               ⟨(some 17), none, .mv (.t 5)⟩,
               ⟨(some 18), none, .iaddr 3 (.t 16) (.t 17)⟩,
               ⟨(some 19), none, .load (some 3) (.t 18)⟩,
               ⟨(some 20), none, .mv (.t 1)⟩,
               ⟨(some 21), none, .mv (.t 5)⟩,
               ⟨(some 22), none, .iaddr 3 (.t 20) (.t 21)⟩,
               ⟨(some 23), none, .load (some 3) (.t 22)⟩,
               ⟨(some 24), none, .eqs [1, 1, 1] true (.t 19) (.t 23)⟩])
             (.cond (.t 24)
              (.seq
               (.reg [⟨(some 4), none, .mv (.c (.bool false))⟩])
               .ret)
              .skip))))
          (.reg [⟨(some 25), none, .bin .add (.t 13) (.c (.int .i64 1))⟩,
            ⟨(some 13), none, .take 25⟩])))))))
    (.seq
     (.reg [⟨(some 4), none, .mv (.c (.bool true))⟩])
     .ret))))
def ar57 : List AR := [.t 4]
theorem comp57 : Try.f57.body.bind (comp Try.prog 26) = some ac57 := by kernel_rfl
theorem cres57 : compRes Try.prog Try.f57.results.toList = some ar57 := by kernel_rfl
/-- slices.Backward[[]bilander/index.Entry,bilander/index.Entry] -/
def ac58 : AC :=
 (.seq
  (.reg [⟨(some 1), none, .box 1 (.t 0)⟩,
    ⟨(some 2), none, .mv (.c .nilf)⟩])
  (.seq
   (.seq
    (.frz [1])
    (.reg [⟨(some 3), none, .mkfn 68 [] [(.t 1)]⟩,
      ⟨(some 2), none, .take 3⟩]))
   .ret))
def ar58 : List AR := [.t 2]
theorem comp58 : Try.f58.body.bind (comp Try.prog 4) = some ac58 := by kernel_rfl
theorem cres58 : compRes Try.prog Try.f58.results.toList = some ar58 := by kernel_rfl
/-- sort.Search -/
def ac59 : AC :=
 (.seq
  (.reg [⟨(some 4), none, .mv (.c (.int .i64 0))⟩])
  (.seq
   (.reg [⟨(some 8), none, .take 0⟩,
     ⟨(some 5), none, .mv (.c (.int .i64 0))⟩,
     ⟨(some 6), none, .take 8⟩])
   (.seq
    (.block 0
     (.loop
      (.seq
       (.seq
        (.reg [⟨(some 9), none, .mv (.t 5)⟩,
          ⟨(some 10), none, .mv (.t 6)⟩,
          ⟨(some 11), none, .bin .lss (.t 9) (.t 10)⟩])
        (.cond (.t 11)
         .skip
         (.exit 0)))
       (.block 1
        (.seq
         (.reg [⟨(some 12), none, .mv (.t 5)⟩,
           ⟨(some 13), none, .mv (.t 6)⟩,
           ⟨(some 14), none, .bin .add (.t 12) (.t 13)⟩,
           ⟨(some 15), none, .conv .u64 (.t 14)⟩,
           ⟨(some 16), none, .bin .shr (.t 15) (.c (.int .u64 1))⟩,
           ⟨(some 17), none, .conv .i64 (.t 16)⟩,
           ⟨(some 7), none, .take 17⟩])
         (.seq
          (.reg [⟨(some 18), none, .mv (.t 1)⟩,
            ⟨(some 19), none, .mv (.t 7)⟩,
            ⟨(some 20), none, .callV (.t 18) [(.t 19)]⟩,
            ⟨(some 21), none, .una .not (.t 20)⟩])
          (.cond (.t 21)
           (.reg [⟨(some 22), none, .mv (.t 7)⟩,
             ⟨(some 23), none, .bin .add (.t 22) (.c (.int .i64 1))⟩,
             ⟨(some 5), none, .take 23⟩])
           (.reg [⟨(some 24), none, .take 7⟩,
             ⟨(some 6), none, .take 24⟩]))))))))
    (.seq
     (.reg [⟨(some 25), none, .take 5⟩,
       ⟨(some 4), none, .take 25⟩])
     .ret))))
def ar59 : List AR := [.t 4]
theorem comp59 : Try.f59.body.bind (comp Try.prog 26) = some ac59 := by kernel_rfl
theorem cres59 : compRes Try.prog Try.f59.results.toList = some ar59 := by kernel_rfl
/-- bilander/index.Find$1 -/
def ac60 : AC :=
 (.seq
  (.reg [⟨(some 4), none, .mv (.c (.bool false))⟩])
  (.seq
   (.dreg [] [⟨(some 5), none, .faddr (.t 1) 2⟩,
     ⟨(some 6), none, .load none (.t 5)⟩,
     ⟨(some 7), none, .mv (.t 0)⟩,
     ⟨(some 8), none, .iaddr 3 (.t 6) (.t 7)⟩,
     ⟨(some 9), none, .faddr (.t 8) 0⟩,
     ⟨(some 10), none, .load none (.t 9)⟩,
     ⟨(some 11), none, .load none (.t 2)⟩,
     ⟨(some 12), none, .bin .gtr (.t 10) (.t 11)⟩,
     ⟨(some 4), none, .take 12⟩])
   .ret))
def ar60 : List AR := [.t 4]
theorem comp60 : Try.f60.body.bind (comp Try.prog 13) = some ac60 := by kernel_rfl
theorem cres60 : compRes Try.prog Try.f60.results.toList = some ar60 := by kernel_rfl
end Go.Proofs.Ytomlhaekhammkaa
