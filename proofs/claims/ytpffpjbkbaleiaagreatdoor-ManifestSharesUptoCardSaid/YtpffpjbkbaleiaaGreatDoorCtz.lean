import Derived.Shelf.Spec.TrailingZeros
import Derived.Ground.Names7Prog
import Derived.Test.YtpffpjbkbaleiaaGreatDoorProg
namespace Go.Proofs
open Go.Shelf
def Tryz.laysCtz_ren : Go.Shelf.Ren := ⟨fun | 29 => 212 | n => n, fun | 22 => 43 | 3 => 3 | 4 => 4 | 25 => 196 | 54 => 213 | 0 => 0 | 5 => 5 | n => n, fun | 1 => 6 | n => n⟩
theorem Tryz.laysCtz : Go.Proofs.Lays7.n29 Tryz.prog Tryz.laysCtz_ren := {
  mixed := by kernel_rfl
  f29 := Tryz.func212.trans (congrArg some (by kernel_rfl))
  t0 := Tryz.underlying0
  a0 := Tryz.isAgg0
  z0 := Tryz.sizeOf0
  v0 := Tryz.zeroValue0
  i0 := by kernel_rfl
  t3 := Tryz.underlying3
  a3 := Tryz.isAgg3
  z3 := Tryz.sizeOf3
  v3 := Tryz.zeroValue3
  i3 := by kernel_rfl
  t4 := Tryz.underlying4
  a4 := Tryz.isAgg4
  z4 := Tryz.sizeOf4
  v4 := Tryz.zeroValue4
  i4 := by kernel_rfl
  t5 := Tryz.underlying5
  a5 := Tryz.isAgg5
  z5 := Tryz.sizeOf5
  v5 := Tryz.zeroValue5
  i5 := by kernel_rfl
  t22 := Tryz.underlying43
  a22 := Tryz.isAgg43
  z22 := Tryz.sizeOf43
  v22 := Tryz.zeroValue43
  i22 := by kernel_rfl
  t25 := Tryz.underlying196
  a25 := Tryz.isAgg196
  z25 := Tryz.sizeOf196
  v25 := Tryz.zeroValue196
  i25 := by kernel_rfl
  t54 := Tryz.underlying213
  a54 := Tryz.isAgg213
  z54 := Tryz.sizeOf213
  g1 := by kernel_rfl }
open Go.RowKit in
theorem Tryz.bits_TrailingZeros64 (x : Nat) (hx : x < 18446744073709551616) (w : World) (hT : x ≠ 0 → TabAt 6 Lib.deBruijn64tab w) : Calls Tryz.prog 212 #[.int .u64 x] w fun e w' => e = .returned (.int .i64 (Lib.ctz 64 x)) ∧ w' = w := Any7.bits_TrailingZeros64 Tryz.laysCtz x hx w hT
end Go.Proofs
