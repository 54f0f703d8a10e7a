import Derived.Test.YtkiimlmlfhmkiaaCrA
import Derived.Test.YtkiimlmlfhmkiaaCvG

set_option linter.unusedSimpArgs false
set_option linter.unusedVariables false
set_option maxHeartbeats 2000000
namespace Go.Proofs.Ytkiimlmlfhmkiaa
open Go.Av

structure Rec where
  dl : Int
  tm : Int
  kd : Bool
  key : ByteArray
  dd : Bool
  val : ByteArray
def Rec.cells (r : Rec) : List SV := [.int .i64 r.dl, .int .i64 r.tm, .bool r.kd, .str r.key, .bool r.dd, .str r.val]
def Rec.sv (r : Rec) : SV := .agg r.cells
def Rec.fits (r : Rec) : Prop := I64 r.dl ∧ I64 r.tm
def isE (s : ByteArray) : Bool := decide (s.toList = [])
def recE (r : Rec) : Int :=
  if r.dl < 0 ∨ 32 ≤ r.dl ∨ r.tm < 0 ∨ 1099511627776 < r.tm then 11
  else if 64 < (r.key.size : Int) ∨ 512 < (r.val.size : Int) then 5
  else if (!r.kd && (!isE r.key || r.dd)) || (r.dd && !isE r.val) then 4
  else 0

theorem light_pure (r : Rec) : Pure Try.prog 70 [r.sv] (.sv (.bool (decide ((r.key.size : Int) ≤ 200) && decide ((r.val.size : Int) ≤ 700)))) := by
  refine pure_go R0_ok Try.func70 Try.ntmps70 comp70 cres70 (by decide) (by simp) ?_
  obtain ⟨dl, tm, kd, key, dd, val⟩ := r
  simp [ac70, ar70, Rec.sv, Rec.cells]
theorem check_pure (r : Rec) : Pure Try.prog 74 [r.sv] (.sv (.int .i64 (recE r))) := by
  refine pure_go R0_ok Try.func74 Try.ntmps74 comp74 cres74 (by decide) (by simp) ?_
  obtain ⟨dl, tm, kd, key, dd, val⟩ := r
  simp only [Rec.sv, Rec.cells, recE, isE]
  by_cases h1 : dl < 0
  · simp [ac74, ar74, h1]
  by_cases h2 : 32 ≤ dl
  · simp [ac74, ar74, h1, h2]
  by_cases h3 : tm < 0
  · simp [ac74, ar74, h1, h2, h3]
  by_cases h4 : 1099511627776 < tm
  · simp [ac74, ar74, h1, h2, h3, h4]
  by_cases h5 : 64 < (key.size : Int)
  · simp [ac74, ar74, h1, h2, h3, h4, h5]
  by_cases h6 : 512 < (val.size : Int)
  · simp [ac74, ar74, h1, h2, h3, h4, h5, h6]
  by_cases h7 : key.toList = []
  · by_cases h8 : val.toList = []
    · cases kd <;> cases dd <;> simp [ac74, ar74, h1, h2, h3, h4, h5, h6, h7, h8]
    · cases kd <;> cases dd <;> simp [ac74, ar74, h1, h2, h3, h4, h5, h6, h7, h8]
  · by_cases h8 : val.toList = []
    · cases kd <;> cases dd <;> simp [ac74, ar74, h1, h2, h3, h4, h5, h6, h7, h8]
    · cases kd <;> cases dd <;> simp [ac74, ar74, h1, h2, h3, h4, h5, h6, h7, h8]
theorem rcheck_pure (r : Rec) : Pure Try.prog 80 [r.sv] (.sv (.int .i64 (recE r))) := by
  refine pure_go R0_ok Try.func80 Try.ntmps80 comp80 cres80 (by decide) (by simp) ?_
  obtain ⟨dl, tm, kd, key, dd, val⟩ := r
  simp only [Rec.sv, Rec.cells, recE, isE]
  by_cases h1 : dl < 0
  · simp [ac80, ar80, h1]
  by_cases h2 : 32 ≤ dl
  · have h2' : 31 < dl := by omega
    simp [ac80, ar80, h1, h2, h2']
  have h2' : ¬ 31 < dl := by omega
  by_cases h3 : tm < 0
  · simp [ac80, ar80, h1, h2, h2', h3]
  by_cases h4 : 1099511627776 < tm
  · simp [ac80, ar80, h1, h2, h2', h3, h4]
  by_cases h5 : 64 < (key.size : Int)
  · simp [ac80, ar80, h1, h2, h2', h3, h4, h5]
  by_cases h6 : 512 < (val.size : Int)
  · simp [ac80, ar80, h1, h2, h2', h3, h4, h5, h6]
  by_cases h7 : key.toList = []
  · by_cases h8 : val.toList = []
    · cases kd <;> cases dd <;> simp [ac80, ar80, h1, h2, h2', h3, h4, h5, h6, h7, h8]
    · cases kd <;> cases dd <;> simp [ac80, ar80, h1, h2, h2', h3, h4, h5, h6, h7, h8]
  · by_cases h8 : val.toList = []
    · cases kd <;> cases dd <;> simp [ac80, ar80, h1, h2, h2', h3, h4, h5, h6, h7, h8]
    · cases kd <;> cases dd <;> simp [ac80, ar80, h1, h2, h2', h3, h4, h5, h6, h7, h8]
def recS (r s : Rec) : Bool := (r.dl == s.dl) && ((r.tm == s.tm) && ((r.kd == s.kd) && ((r.key.toList == s.key.toList) && ((r.dd == s.dd) && (r.val.toList == s.val.toList)))))
theorem rsame_pure (r s : Rec) : Pure Try.prog 45 [r.sv, s.sv] (.sv (.bool (recS r s))) := by
  refine pure_go R0_ok Try.func45 Try.ntmps45 comp45 cres45 (by decide) (by simp) ?_
  obtain ⟨dl, tm, kd, key, dd, val⟩ := r
  obtain ⟨dl', tm', kd', key', dd', val'⟩ := s
  simp only [Rec.sv, Rec.cells, recS]
  simp [ac45, ar45]
  simp [Bool.and_assoc]

end Go.Proofs.Ytkiimlmlfhmkiaa
