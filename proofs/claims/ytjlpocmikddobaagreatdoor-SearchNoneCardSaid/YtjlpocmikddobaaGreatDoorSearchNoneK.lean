/-
  What is proved here: a part of: SearchNone answers true (a closed law): the facts of its row. No conditions.
-/
import Derived.Test.YtjlpocmikddobaaGreatDoorSearchNoneJ
namespace Go.Proofs.YtjlpocmikddobaaGreatDoor.searchNone
set_option maxRecDepth 100000 in
theorem closed : joinedFacts Tryz.prog 3 Tryz.f3 Rows.searchNoneSpec Rows.searchNoneRow = true := by
  have k2 := both j1 j2
  have k3 := both k2 j3
  have k4 := both k3 j4
  have k5 := both k4 j5
  have k6 := both k5 j6
  have k7 := both k6 j7
  have k8 := both k7 j8
  have k9 := both k8 j9
  have k10 := both k9 j10
  have k11 := both k10 j11
  have k12 := both k11 j12
  have k13 := both k12 j13
  have k14 := both k13 j14
  have k15 := both k14 j15
  have k16 := both k15 j16
  have k17 := both k16 j17
  have k18 := both k17 j18
  have k19 := both k18 j19
  have k20 := both k19 j20
  have k21 := both k20 j21
  have k22 := both k21 j22
  have k23 := both k22 j23
  have k24 := both k23 j24
  have k25 := both k24 j25
  have k26 := both k25 j26
  have k27 := both k26 j27
  have k28 := both k27 j28
  have k29 := both k28 j29
  have k30 := both k29 j30
  have k31 := both k30 j31
  have k32 := both k31 j32
  unfold joinedFacts
  exact k32
end Go.Proofs.YtjlpocmikddobaaGreatDoor.searchNone
