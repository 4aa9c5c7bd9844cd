/- Phases: the reference's roots of the four numbers. -/
import Derived.Test.YtficghohflmdeaaPh4
namespace Go.Proofs.Ytficghohflmdeaa
open Go.RowKit
set_option linter.unusedVariables false

theorem rbt0 : floatBits .quo .f64 4607182418800017408 4611686018427387904 = some 4602678819172646912 := by decide +kernel
@[go_sem] theorem rrt0 (w : World) : fres .quo .f64 4607182418800017408 4611686018427387904 w = 4602678819172646912 := fres_some rbt0 w
@[go_sem] theorem rnt0 : nd .quo .f64 4607182418800017408 4611686018427387904 = 0 := nd_some rbt0
theorem rbt1 : floatBits .quo .f64 4602678819172646912 4611686018427387904 = some 4598175219545276416 := by decide +kernel
@[go_sem] theorem rrt1 (w : World) : fres .quo .f64 4602678819172646912 4611686018427387904 w = 4598175219545276416 := fres_some rbt1 w
@[go_sem] theorem rnt1 : nd .quo .f64 4602678819172646912 4611686018427387904 = 0 := nd_some rbt1
theorem rbt2 : floatBits .quo .f64 4598175219545276416 4611686018427387904 = some 4593671619917905920 := by decide +kernel
@[go_sem] theorem rrt2 (w : World) : fres .quo .f64 4598175219545276416 4611686018427387904 w = 4593671619917905920 := fres_some rbt2 w
@[go_sem] theorem rnt2 : nd .quo .f64 4598175219545276416 4611686018427387904 = 0 := nd_some rbt2
theorem rbt3 : floatBits .quo .f64 4593671619917905920 4611686018427387904 = some 4589168020290535424 := by decide +kernel
@[go_sem] theorem rrt3 (w : World) : fres .quo .f64 4593671619917905920 4611686018427387904 w = 4589168020290535424 := fres_some rbt3 w
@[go_sem] theorem rnt3 : nd .quo .f64 4593671619917905920 4611686018427387904 = 0 := nd_some rbt3
theorem rbt4 : floatBits .quo .f64 4589168020290535424 4611686018427387904 = some 4584664420663164928 := by decide +kernel
@[go_sem] theorem rrt4 (w : World) : fres .quo .f64 4589168020290535424 4611686018427387904 w = 4584664420663164928 := fres_some rbt4 w
@[go_sem] theorem rnt4 : nd .quo .f64 4589168020290535424 4611686018427387904 = 0 := nd_some rbt4
theorem rbt5 : floatBits .quo .f64 4584664420663164928 4611686018427387904 = some 4580160821035794432 := by decide +kernel
@[go_sem] theorem rrt5 (w : World) : fres .quo .f64 4584664420663164928 4611686018427387904 w = 4580160821035794432 := fres_some rbt5 w
@[go_sem] theorem rnt5 : nd .quo .f64 4584664420663164928 4611686018427387904 = 0 := nd_some rbt5
theorem rbt6 : floatBits .quo .f64 4580160821035794432 4611686018427387904 = some 4575657221408423936 := by decide +kernel
@[go_sem] theorem rrt6 (w : World) : fres .quo .f64 4580160821035794432 4611686018427387904 w = 4575657221408423936 := fres_some rbt6 w
@[go_sem] theorem rnt6 : nd .quo .f64 4580160821035794432 4611686018427387904 = 0 := nd_some rbt6
theorem rbt7 : floatBits .quo .f64 4575657221408423936 4611686018427387904 = some 4571153621781053440 := by decide +kernel
@[go_sem] theorem rrt7 (w : World) : fres .quo .f64 4575657221408423936 4611686018427387904 w = 4571153621781053440 := fres_some rbt7 w
@[go_sem] theorem rnt7 : nd .quo .f64 4575657221408423936 4611686018427387904 = 0 := nd_some rbt7
theorem rbt8 : floatBits .quo .f64 4571153621781053440 4611686018427387904 = some 4566650022153682944 := by decide +kernel
@[go_sem] theorem rrt8 (w : World) : fres .quo .f64 4571153621781053440 4611686018427387904 w = 4566650022153682944 := fres_some rbt8 w
@[go_sem] theorem rnt8 : nd .quo .f64 4571153621781053440 4611686018427387904 = 0 := nd_some rbt8
theorem rbt9 : floatBits .quo .f64 4566650022153682944 4611686018427387904 = some 4562146422526312448 := by decide +kernel
@[go_sem] theorem rrt9 (w : World) : fres .quo .f64 4566650022153682944 4611686018427387904 w = 4562146422526312448 := fres_some rbt9 w
@[go_sem] theorem rnt9 : nd .quo .f64 4566650022153682944 4611686018427387904 = 0 := nd_some rbt9
theorem rbt10 : floatBits .quo .f64 4562146422526312448 4611686018427387904 = some 4557642822898941952 := by decide +kernel
@[go_sem] theorem rrt10 (w : World) : fres .quo .f64 4562146422526312448 4611686018427387904 w = 4557642822898941952 := fres_some rbt10 w
@[go_sem] theorem rnt10 : nd .quo .f64 4562146422526312448 4611686018427387904 = 0 := nd_some rbt10
theorem rbt11 : floatBits .quo .f64 4557642822898941952 4611686018427387904 = some 4553139223271571456 := by decide +kernel
@[go_sem] theorem rrt11 (w : World) : fres .quo .f64 4557642822898941952 4611686018427387904 w = 4553139223271571456 := fres_some rbt11 w
@[go_sem] theorem rnt11 : nd .quo .f64 4557642822898941952 4611686018427387904 = 0 := nd_some rbt11
theorem rbt12 : floatBits .quo .f64 4553139223271571456 4611686018427387904 = some 4548635623644200960 := by decide +kernel
@[go_sem] theorem rrt12 (w : World) : fres .quo .f64 4553139223271571456 4611686018427387904 w = 4548635623644200960 := fres_some rbt12 w
@[go_sem] theorem rnt12 : nd .quo .f64 4553139223271571456 4611686018427387904 = 0 := nd_some rbt12
theorem rbt13 : floatBits .quo .f64 4548635623644200960 4611686018427387904 = some 4544132024016830464 := by decide +kernel
@[go_sem] theorem rrt13 (w : World) : fres .quo .f64 4548635623644200960 4611686018427387904 w = 4544132024016830464 := fres_some rbt13 w
@[go_sem] theorem rnt13 : nd .quo .f64 4548635623644200960 4611686018427387904 = 0 := nd_some rbt13
theorem rbt14 : floatBits .quo .f64 4544132024016830464 4611686018427387904 = some 4539628424389459968 := by decide +kernel
@[go_sem] theorem rrt14 (w : World) : fres .quo .f64 4544132024016830464 4611686018427387904 w = 4539628424389459968 := fres_some rbt14 w
@[go_sem] theorem rnt14 : nd .quo .f64 4544132024016830464 4611686018427387904 = 0 := nd_some rbt14
theorem rbt15 : floatBits .quo .f64 4539628424389459968 4611686018427387904 = some 4535124824762089472 := by decide +kernel
@[go_sem] theorem rrt15 (w : World) : fres .quo .f64 4539628424389459968 4611686018427387904 w = 4535124824762089472 := fres_some rbt15 w
@[go_sem] theorem rnt15 : nd .quo .f64 4539628424389459968 4611686018427387904 = 0 := nd_some rbt15
theorem rbt16 : floatBits .quo .f64 4535124824762089472 4611686018427387904 = some 4530621225134718976 := by decide +kernel
@[go_sem] theorem rrt16 (w : World) : fres .quo .f64 4535124824762089472 4611686018427387904 w = 4530621225134718976 := fres_some rbt16 w
@[go_sem] theorem rnt16 : nd .quo .f64 4535124824762089472 4611686018427387904 = 0 := nd_some rbt16
theorem rbt17 : floatBits .quo .f64 4530621225134718976 4611686018427387904 = some 4526117625507348480 := by decide +kernel
@[go_sem] theorem rrt17 (w : World) : fres .quo .f64 4530621225134718976 4611686018427387904 w = 4526117625507348480 := fres_some rbt17 w
@[go_sem] theorem rnt17 : nd .quo .f64 4530621225134718976 4611686018427387904 = 0 := nd_some rbt17
theorem rbt18 : floatBits .quo .f64 4526117625507348480 4611686018427387904 = some 4521614025879977984 := by decide +kernel
@[go_sem] theorem rrt18 (w : World) : fres .quo .f64 4526117625507348480 4611686018427387904 w = 4521614025879977984 := fres_some rbt18 w
@[go_sem] theorem rnt18 : nd .quo .f64 4526117625507348480 4611686018427387904 = 0 := nd_some rbt18
theorem rbt19 : floatBits .quo .f64 4521614025879977984 4611686018427387904 = some 4517110426252607488 := by decide +kernel
@[go_sem] theorem rrt19 (w : World) : fres .quo .f64 4521614025879977984 4611686018427387904 w = 4517110426252607488 := fres_some rbt19 w
@[go_sem] theorem rnt19 : nd .quo .f64 4521614025879977984 4611686018427387904 = 0 := nd_some rbt19
theorem rbt20 : floatBits .quo .f64 4517110426252607488 4611686018427387904 = some 4512606826625236992 := by decide +kernel
@[go_sem] theorem rrt20 (w : World) : fres .quo .f64 4517110426252607488 4611686018427387904 w = 4512606826625236992 := fres_some rbt20 w
@[go_sem] theorem rnt20 : nd .quo .f64 4517110426252607488 4611686018427387904 = 0 := nd_some rbt20
theorem rbt21 : floatBits .quo .f64 4512606826625236992 4611686018427387904 = some 4508103226997866496 := by decide +kernel
@[go_sem] theorem rrt21 (w : World) : fres .quo .f64 4512606826625236992 4611686018427387904 w = 4508103226997866496 := fres_some rbt21 w
@[go_sem] theorem rnt21 : nd .quo .f64 4512606826625236992 4611686018427387904 = 0 := nd_some rbt21
theorem rbt22 : floatBits .quo .f64 4508103226997866496 4611686018427387904 = some 4503599627370496000 := by decide +kernel
@[go_sem] theorem rrt22 (w : World) : fres .quo .f64 4508103226997866496 4611686018427387904 w = 4503599627370496000 := fres_some rbt22 w
@[go_sem] theorem rnt22 : nd .quo .f64 4508103226997866496 4611686018427387904 = 0 := nd_some rbt22
theorem rbt23 : floatBits .quo .f64 4503599627370496000 4611686018427387904 = some 4499096027743125504 := by decide +kernel
@[go_sem] theorem rrt23 (w : World) : fres .quo .f64 4503599627370496000 4611686018427387904 w = 4499096027743125504 := fres_some rbt23 w
@[go_sem] theorem rnt23 : nd .quo .f64 4503599627370496000 4611686018427387904 = 0 := nd_some rbt23
theorem rbt24 : floatBits .quo .f64 4499096027743125504 4611686018427387904 = some 4494592428115755008 := by decide +kernel
@[go_sem] theorem rrt24 (w : World) : fres .quo .f64 4499096027743125504 4611686018427387904 w = 4494592428115755008 := fres_some rbt24 w
@[go_sem] theorem rnt24 : nd .quo .f64 4499096027743125504 4611686018427387904 = 0 := nd_some rbt24

set_option maxRecDepth 10000 in
set_option maxHeartbeats 2000000 in
theorem l01Two_25 (w : World) : Calls Try.prog 143 #[.int .i64 (-25)] w fun e w' => e = .returned (.float .f64 4494592428115755008) ∧ w = w' := by
  go_enter Try.func143, Try.ntmps143
  go_wp2
  go_rounds 1
  go_rounds 26
  go_ret
  exact ⟨rfl, rfl⟩

@[go_sem] theorem z0 : FloatKind.f32.format.order 1056964608 0 = some .gt := by decide +kernel
theorem ub0 : floatToFloatBits .f32 1056964608 .f64 = some 4602678819172646912 := by decide +kernel
@[go_sem] theorem uw0 (w : World) : wres 1056964608 w = 4602678819172646912 := wres_some ub0 w
@[go_sem] theorem un0 : nw 1056964608 = 0 := nw_some ub0
theorem rby0_0 : floatBits .mul .f64 4602678819172646912 4616189618054758400 = some 4611686018427387904 := by decide +kernel
@[go_sem] theorem rry0_0 (w : World) : fres .mul .f64 4602678819172646912 4616189618054758400 w = 4611686018427387904 := fres_some rby0_0 w
@[go_sem] theorem rny0_0 : nd .mul .f64 4602678819172646912 4616189618054758400 = 0 := nd_some rby0_0
@[go_sem] theorem ol0_0 : FloatKind.f64.format.order 4602678819172646912 4823355200913801216 = some .lt := by decide +kernel
theorem rby0_1 : floatBits .mul .f64 4611686018427387904 4616189618054758400 = some 4620693217682128896 := by decide +kernel
@[go_sem] theorem rry0_1 (w : World) : fres .mul .f64 4611686018427387904 4616189618054758400 w = 4620693217682128896 := fres_some rby0_1 w
@[go_sem] theorem rny0_1 : nd .mul .f64 4611686018427387904 4616189618054758400 = 0 := nd_some rby0_1
@[go_sem] theorem ol0_1 : FloatKind.f64.format.order 4611686018427387904 4823355200913801216 = some .lt := by decide +kernel
theorem rby0_2 : floatBits .mul .f64 4620693217682128896 4616189618054758400 = some 4629700416936869888 := by decide +kernel
@[go_sem] theorem rry0_2 (w : World) : fres .mul .f64 4620693217682128896 4616189618054758400 w = 4629700416936869888 := fres_some rby0_2 w
@[go_sem] theorem rny0_2 : nd .mul .f64 4620693217682128896 4616189618054758400 = 0 := nd_some rby0_2
@[go_sem] theorem ol0_2 : FloatKind.f64.format.order 4620693217682128896 4823355200913801216 = some .lt := by decide +kernel
theorem rby0_3 : floatBits .mul .f64 4629700416936869888 4616189618054758400 = some 4638707616191610880 := by decide +kernel
@[go_sem] theorem rry0_3 (w : World) : fres .mul .f64 4629700416936869888 4616189618054758400 w = 4638707616191610880 := fres_some rby0_3 w
@[go_sem] theorem rny0_3 : nd .mul .f64 4629700416936869888 4616189618054758400 = 0 := nd_some rby0_3
@[go_sem] theorem ol0_3 : FloatKind.f64.format.order 4629700416936869888 4823355200913801216 = some .lt := by decide +kernel
theorem rby0_4 : floatBits .mul .f64 4638707616191610880 4616189618054758400 = some 4647714815446351872 := by decide +kernel
@[go_sem] theorem rry0_4 (w : World) : fres .mul .f64 4638707616191610880 4616189618054758400 w = 4647714815446351872 := fres_some rby0_4 w
@[go_sem] theorem rny0_4 : nd .mul .f64 4638707616191610880 4616189618054758400 = 0 := nd_some rby0_4
@[go_sem] theorem ol0_4 : FloatKind.f64.format.order 4638707616191610880 4823355200913801216 = some .lt := by decide +kernel
theorem rby0_5 : floatBits .mul .f64 4647714815446351872 4616189618054758400 = some 4656722014701092864 := by decide +kernel
@[go_sem] theorem rry0_5 (w : World) : fres .mul .f64 4647714815446351872 4616189618054758400 w = 4656722014701092864 := fres_some rby0_5 w
@[go_sem] theorem rny0_5 : nd .mul .f64 4647714815446351872 4616189618054758400 = 0 := nd_some rby0_5
@[go_sem] theorem ol0_5 : FloatKind.f64.format.order 4647714815446351872 4823355200913801216 = some .lt := by decide +kernel
theorem rby0_6 : floatBits .mul .f64 4656722014701092864 4616189618054758400 = some 4665729213955833856 := by decide +kernel
@[go_sem] theorem rry0_6 (w : World) : fres .mul .f64 4656722014701092864 4616189618054758400 w = 4665729213955833856 := fres_some rby0_6 w
@[go_sem] theorem rny0_6 : nd .mul .f64 4656722014701092864 4616189618054758400 = 0 := nd_some rby0_6
@[go_sem] theorem ol0_6 : FloatKind.f64.format.order 4656722014701092864 4823355200913801216 = some .lt := by decide +kernel
theorem rby0_7 : floatBits .mul .f64 4665729213955833856 4616189618054758400 = some 4674736413210574848 := by decide +kernel
@[go_sem] theorem rry0_7 (w : World) : fres .mul .f64 4665729213955833856 4616189618054758400 w = 4674736413210574848 := fres_some rby0_7 w
@[go_sem] theorem rny0_7 : nd .mul .f64 4665729213955833856 4616189618054758400 = 0 := nd_some rby0_7
@[go_sem] theorem ol0_7 : FloatKind.f64.format.order 4665729213955833856 4823355200913801216 = some .lt := by decide +kernel
theorem rby0_8 : floatBits .mul .f64 4674736413210574848 4616189618054758400 = some 4683743612465315840 := by decide +kernel
@[go_sem] theorem rry0_8 (w : World) : fres .mul .f64 4674736413210574848 4616189618054758400 w = 4683743612465315840 := fres_some rby0_8 w
@[go_sem] theorem rny0_8 : nd .mul .f64 4674736413210574848 4616189618054758400 = 0 := nd_some rby0_8
@[go_sem] theorem ol0_8 : FloatKind.f64.format.order 4674736413210574848 4823355200913801216 = some .lt := by decide +kernel
theorem rby0_9 : floatBits .mul .f64 4683743612465315840 4616189618054758400 = some 4692750811720056832 := by decide +kernel
@[go_sem] theorem rry0_9 (w : World) : fres .mul .f64 4683743612465315840 4616189618054758400 w = 4692750811720056832 := fres_some rby0_9 w
@[go_sem] theorem rny0_9 : nd .mul .f64 4683743612465315840 4616189618054758400 = 0 := nd_some rby0_9
@[go_sem] theorem ol0_9 : FloatKind.f64.format.order 4683743612465315840 4823355200913801216 = some .lt := by decide +kernel
theorem rby0_10 : floatBits .mul .f64 4692750811720056832 4616189618054758400 = some 4701758010974797824 := by decide +kernel
@[go_sem] theorem rry0_10 (w : World) : fres .mul .f64 4692750811720056832 4616189618054758400 w = 4701758010974797824 := fres_some rby0_10 w
@[go_sem] theorem rny0_10 : nd .mul .f64 4692750811720056832 4616189618054758400 = 0 := nd_some rby0_10
@[go_sem] theorem ol0_10 : FloatKind.f64.format.order 4692750811720056832 4823355200913801216 = some .lt := by decide +kernel
theorem rby0_11 : floatBits .mul .f64 4701758010974797824 4616189618054758400 = some 4710765210229538816 := by decide +kernel
@[go_sem] theorem rry0_11 (w : World) : fres .mul .f64 4701758010974797824 4616189618054758400 w = 4710765210229538816 := fres_some rby0_11 w
@[go_sem] theorem rny0_11 : nd .mul .f64 4701758010974797824 4616189618054758400 = 0 := nd_some rby0_11
@[go_sem] theorem ol0_11 : FloatKind.f64.format.order 4701758010974797824 4823355200913801216 = some .lt := by decide +kernel
theorem rby0_12 : floatBits .mul .f64 4710765210229538816 4616189618054758400 = some 4719772409484279808 := by decide +kernel
@[go_sem] theorem rry0_12 (w : World) : fres .mul .f64 4710765210229538816 4616189618054758400 w = 4719772409484279808 := fres_some rby0_12 w
@[go_sem] theorem rny0_12 : nd .mul .f64 4710765210229538816 4616189618054758400 = 0 := nd_some rby0_12
@[go_sem] theorem ol0_12 : FloatKind.f64.format.order 4710765210229538816 4823355200913801216 = some .lt := by decide +kernel
theorem rby0_13 : floatBits .mul .f64 4719772409484279808 4616189618054758400 = some 4728779608739020800 := by decide +kernel
@[go_sem] theorem rry0_13 (w : World) : fres .mul .f64 4719772409484279808 4616189618054758400 w = 4728779608739020800 := fres_some rby0_13 w
@[go_sem] theorem rny0_13 : nd .mul .f64 4719772409484279808 4616189618054758400 = 0 := nd_some rby0_13
@[go_sem] theorem ol0_13 : FloatKind.f64.format.order 4719772409484279808 4823355200913801216 = some .lt := by decide +kernel
theorem rby0_14 : floatBits .mul .f64 4728779608739020800 4616189618054758400 = some 4737786807993761792 := by decide +kernel
@[go_sem] theorem rry0_14 (w : World) : fres .mul .f64 4728779608739020800 4616189618054758400 w = 4737786807993761792 := fres_some rby0_14 w
@[go_sem] theorem rny0_14 : nd .mul .f64 4728779608739020800 4616189618054758400 = 0 := nd_some rby0_14
@[go_sem] theorem ol0_14 : FloatKind.f64.format.order 4728779608739020800 4823355200913801216 = some .lt := by decide +kernel
theorem rby0_15 : floatBits .mul .f64 4737786807993761792 4616189618054758400 = some 4746794007248502784 := by decide +kernel
@[go_sem] theorem rry0_15 (w : World) : fres .mul .f64 4737786807993761792 4616189618054758400 w = 4746794007248502784 := fres_some rby0_15 w
@[go_sem] theorem rny0_15 : nd .mul .f64 4737786807993761792 4616189618054758400 = 0 := nd_some rby0_15
@[go_sem] theorem ol0_15 : FloatKind.f64.format.order 4737786807993761792 4823355200913801216 = some .lt := by decide +kernel
theorem rby0_16 : floatBits .mul .f64 4746794007248502784 4616189618054758400 = some 4755801206503243776 := by decide +kernel
@[go_sem] theorem rry0_16 (w : World) : fres .mul .f64 4746794007248502784 4616189618054758400 w = 4755801206503243776 := fres_some rby0_16 w
@[go_sem] theorem rny0_16 : nd .mul .f64 4746794007248502784 4616189618054758400 = 0 := nd_some rby0_16
@[go_sem] theorem ol0_16 : FloatKind.f64.format.order 4746794007248502784 4823355200913801216 = some .lt := by decide +kernel
theorem rby0_17 : floatBits .mul .f64 4755801206503243776 4616189618054758400 = some 4764808405757984768 := by decide +kernel
@[go_sem] theorem rry0_17 (w : World) : fres .mul .f64 4755801206503243776 4616189618054758400 w = 4764808405757984768 := fres_some rby0_17 w
@[go_sem] theorem rny0_17 : nd .mul .f64 4755801206503243776 4616189618054758400 = 0 := nd_some rby0_17
@[go_sem] theorem ol0_17 : FloatKind.f64.format.order 4755801206503243776 4823355200913801216 = some .lt := by decide +kernel
theorem rby0_18 : floatBits .mul .f64 4764808405757984768 4616189618054758400 = some 4773815605012725760 := by decide +kernel
@[go_sem] theorem rry0_18 (w : World) : fres .mul .f64 4764808405757984768 4616189618054758400 w = 4773815605012725760 := fres_some rby0_18 w
@[go_sem] theorem rny0_18 : nd .mul .f64 4764808405757984768 4616189618054758400 = 0 := nd_some rby0_18
@[go_sem] theorem ol0_18 : FloatKind.f64.format.order 4764808405757984768 4823355200913801216 = some .lt := by decide +kernel
theorem rby0_19 : floatBits .mul .f64 4773815605012725760 4616189618054758400 = some 4782822804267466752 := by decide +kernel
@[go_sem] theorem rry0_19 (w : World) : fres .mul .f64 4773815605012725760 4616189618054758400 w = 4782822804267466752 := fres_some rby0_19 w
@[go_sem] theorem rny0_19 : nd .mul .f64 4773815605012725760 4616189618054758400 = 0 := nd_some rby0_19
@[go_sem] theorem ol0_19 : FloatKind.f64.format.order 4773815605012725760 4823355200913801216 = some .lt := by decide +kernel
theorem rby0_20 : floatBits .mul .f64 4782822804267466752 4616189618054758400 = some 4791830003522207744 := by decide +kernel
@[go_sem] theorem rry0_20 (w : World) : fres .mul .f64 4782822804267466752 4616189618054758400 w = 4791830003522207744 := fres_some rby0_20 w
@[go_sem] theorem rny0_20 : nd .mul .f64 4782822804267466752 4616189618054758400 = 0 := nd_some rby0_20
@[go_sem] theorem ol0_20 : FloatKind.f64.format.order 4782822804267466752 4823355200913801216 = some .lt := by decide +kernel
theorem rby0_21 : floatBits .mul .f64 4791830003522207744 4616189618054758400 = some 4800837202776948736 := by decide +kernel
@[go_sem] theorem rry0_21 (w : World) : fres .mul .f64 4791830003522207744 4616189618054758400 w = 4800837202776948736 := fres_some rby0_21 w
@[go_sem] theorem rny0_21 : nd .mul .f64 4791830003522207744 4616189618054758400 = 0 := nd_some rby0_21
@[go_sem] theorem ol0_21 : FloatKind.f64.format.order 4791830003522207744 4823355200913801216 = some .lt := by decide +kernel
theorem rby0_22 : floatBits .mul .f64 4800837202776948736 4616189618054758400 = some 4809844402031689728 := by decide +kernel
@[go_sem] theorem rry0_22 (w : World) : fres .mul .f64 4800837202776948736 4616189618054758400 w = 4809844402031689728 := fres_some rby0_22 w
@[go_sem] theorem rny0_22 : nd .mul .f64 4800837202776948736 4616189618054758400 = 0 := nd_some rby0_22
@[go_sem] theorem ol0_22 : FloatKind.f64.format.order 4800837202776948736 4823355200913801216 = some .lt := by decide +kernel
theorem rby0_23 : floatBits .mul .f64 4809844402031689728 4616189618054758400 = some 4818851601286430720 := by decide +kernel
@[go_sem] theorem rry0_23 (w : World) : fres .mul .f64 4809844402031689728 4616189618054758400 w = 4818851601286430720 := fres_some rby0_23 w
@[go_sem] theorem rny0_23 : nd .mul .f64 4809844402031689728 4616189618054758400 = 0 := nd_some rby0_23
@[go_sem] theorem ol0_23 : FloatKind.f64.format.order 4809844402031689728 4823355200913801216 = some .lt := by decide +kernel
theorem rby0_24 : floatBits .mul .f64 4818851601286430720 4616189618054758400 = some 4827858800541171712 := by decide +kernel
@[go_sem] theorem rry0_24 (w : World) : fres .mul .f64 4818851601286430720 4616189618054758400 w = 4827858800541171712 := fres_some rby0_24 w
@[go_sem] theorem rny0_24 : nd .mul .f64 4818851601286430720 4616189618054758400 = 0 := nd_some rby0_24
@[go_sem] theorem ol0_24 : FloatKind.f64.format.order 4818851601286430720 4823355200913801216 = some .lt := by decide +kernel
@[go_sem] theorem og0 : FloatKind.f64.format.order 4827858800541171712 4823355200913801216 = some .gt := by decide +kernel
@[go_sem] theorem oh0 : FloatKind.f64.format.order 4827858800541171712 4832362400168542208 = some .lt := by decide +kernel
@[go_sem] theorem cv0 (w : World) : (convert 67 2 (.float .f64 4827858800541171712)).run Try.prog w = .ok (.int .i64 562949953421312) w := by kernel_rfl
@[go_sem] theorem fi0 : floatOfInt .f64 23726566 = 4717134261793062912 := by decide +kernel
theorem rbm0 : floatBits .mul .f64 4717134261793062912 4494592428115755008 = some 4604544271108800512 := by decide +kernel
@[go_sem] theorem rrm0 (w : World) : fres .mul .f64 4717134261793062912 4494592428115755008 w = 4604544271108800512 := fres_some rbm0 w
@[go_sem] theorem rnm0 : nd .mul .f64 4717134261793062912 4494592428115755008 = 0 := nd_some rbm0
theorem db0 : floatToFloatBits .f64 4604544271108800512 .f32 = some 1060439283 := by decide +kernel
@[go_sem] theorem dc0 (w : World) : (convert 67 43 (.float .f64 4604544271108800512)).run Try.prog w = .ok (.float .f32 1060439283) w := run_convert_float_float w 67 43 .f64 .f32 4604544271108800512 1060439283 (by rw [Try.underlying67]; rfl) Try.underlying43 db0

set_option maxRecDepth 10000 in
set_option maxHeartbeats 4000000 in
theorem l01Root0 (w : World) : Calls Try.prog 131 #[.float .f32 1056964608] w fun e w' => e = .returned (.float .f32 1060439283) ∧ w = w' := by
  go_enter Try.func131, Try.ntmps131
  go_wp2
  go_rounds 26
  go_rounds 1
  go_rounds 26
  go_rounds 1
  go_rounds 26
  go_ret
  exact ⟨rfl, rfl⟩

@[go_sem] theorem z1 : FloatKind.f32.format.order 1062896250 0 = some .gt := by decide +kernel
theorem ub1 : floatToFloatBits .f32 1062896250 .f64 = some 4605863345222844416 := by decide +kernel
@[go_sem] theorem uw1 (w : World) : wres 1062896250 w = 4605863345222844416 := wres_some ub1 w
@[go_sem] theorem un1 : nw 1062896250 = 0 := nw_some ub1
theorem rby1_0 : floatBits .mul .f64 4605863345222844416 4616189618054758400 = some 4614870544477585408 := by decide +kernel
@[go_sem] theorem rry1_0 (w : World) : fres .mul .f64 4605863345222844416 4616189618054758400 w = 4614870544477585408 := fres_some rby1_0 w
@[go_sem] theorem rny1_0 : nd .mul .f64 4605863345222844416 4616189618054758400 = 0 := nd_some rby1_0
@[go_sem] theorem ol1_0 : FloatKind.f64.format.order 4605863345222844416 4823355200913801216 = some .lt := by decide +kernel
theorem rby1_1 : floatBits .mul .f64 4614870544477585408 4616189618054758400 = some 4623877743732326400 := by decide +kernel
@[go_sem] theorem rry1_1 (w : World) : fres .mul .f64 4614870544477585408 4616189618054758400 w = 4623877743732326400 := fres_some rby1_1 w
@[go_sem] theorem rny1_1 : nd .mul .f64 4614870544477585408 4616189618054758400 = 0 := nd_some rby1_1
@[go_sem] theorem ol1_1 : FloatKind.f64.format.order 4614870544477585408 4823355200913801216 = some .lt := by decide +kernel
theorem rby1_2 : floatBits .mul .f64 4623877743732326400 4616189618054758400 = some 4632884942987067392 := by decide +kernel
@[go_sem] theorem rry1_2 (w : World) : fres .mul .f64 4623877743732326400 4616189618054758400 w = 4632884942987067392 := fres_some rby1_2 w
@[go_sem] theorem rny1_2 : nd .mul .f64 4623877743732326400 4616189618054758400 = 0 := nd_some rby1_2
@[go_sem] theorem ol1_2 : FloatKind.f64.format.order 4623877743732326400 4823355200913801216 = some .lt := by decide +kernel
theorem rby1_3 : floatBits .mul .f64 4632884942987067392 4616189618054758400 = some 4641892142241808384 := by decide +kernel
@[go_sem] theorem rry1_3 (w : World) : fres .mul .f64 4632884942987067392 4616189618054758400 w = 4641892142241808384 := fres_some rby1_3 w
@[go_sem] theorem rny1_3 : nd .mul .f64 4632884942987067392 4616189618054758400 = 0 := nd_some rby1_3
@[go_sem] theorem ol1_3 : FloatKind.f64.format.order 4632884942987067392 4823355200913801216 = some .lt := by decide +kernel
theorem rby1_4 : floatBits .mul .f64 4641892142241808384 4616189618054758400 = some 4650899341496549376 := by decide +kernel
@[go_sem] theorem rry1_4 (w : World) : fres .mul .f64 4641892142241808384 4616189618054758400 w = 4650899341496549376 := fres_some rby1_4 w
@[go_sem] theorem rny1_4 : nd .mul .f64 4641892142241808384 4616189618054758400 = 0 := nd_some rby1_4
@[go_sem] theorem ol1_4 : FloatKind.f64.format.order 4641892142241808384 4823355200913801216 = some .lt := by decide +kernel
theorem rby1_5 : floatBits .mul .f64 4650899341496549376 4616189618054758400 = some 4659906540751290368 := by decide +kernel
@[go_sem] theorem rry1_5 (w : World) : fres .mul .f64 4650899341496549376 4616189618054758400 w = 4659906540751290368 := fres_some rby1_5 w
@[go_sem] theorem rny1_5 : nd .mul .f64 4650899341496549376 4616189618054758400 = 0 := nd_some rby1_5
@[go_sem] theorem ol1_5 : FloatKind.f64.format.order 4650899341496549376 4823355200913801216 = some .lt := by decide +kernel
theorem rby1_6 : floatBits .mul .f64 4659906540751290368 4616189618054758400 = some 4668913740006031360 := by decide +kernel
@[go_sem] theorem rry1_6 (w : World) : fres .mul .f64 4659906540751290368 4616189618054758400 w = 4668913740006031360 := fres_some rby1_6 w
@[go_sem] theorem rny1_6 : nd .mul .f64 4659906540751290368 4616189618054758400 = 0 := nd_some rby1_6
@[go_sem] theorem ol1_6 : FloatKind.f64.format.order 4659906540751290368 4823355200913801216 = some .lt := by decide +kernel
theorem rby1_7 : floatBits .mul .f64 4668913740006031360 4616189618054758400 = some 4677920939260772352 := by decide +kernel
@[go_sem] theorem rry1_7 (w : World) : fres .mul .f64 4668913740006031360 4616189618054758400 w = 4677920939260772352 := fres_some rby1_7 w
@[go_sem] theorem rny1_7 : nd .mul .f64 4668913740006031360 4616189618054758400 = 0 := nd_some rby1_7
@[go_sem] theorem ol1_7 : FloatKind.f64.format.order 4668913740006031360 4823355200913801216 = some .lt := by decide +kernel
theorem rby1_8 : floatBits .mul .f64 4677920939260772352 4616189618054758400 = some 4686928138515513344 := by decide +kernel
@[go_sem] theorem rry1_8 (w : World) : fres .mul .f64 4677920939260772352 4616189618054758400 w = 4686928138515513344 := fres_some rby1_8 w
@[go_sem] theorem rny1_8 : nd .mul .f64 4677920939260772352 4616189618054758400 = 0 := nd_some rby1_8
@[go_sem] theorem ol1_8 : FloatKind.f64.format.order 4677920939260772352 4823355200913801216 = some .lt := by decide +kernel
theorem rby1_9 : floatBits .mul .f64 4686928138515513344 4616189618054758400 = some 4695935337770254336 := by decide +kernel
@[go_sem] theorem rry1_9 (w : World) : fres .mul .f64 4686928138515513344 4616189618054758400 w = 4695935337770254336 := fres_some rby1_9 w
@[go_sem] theorem rny1_9 : nd .mul .f64 4686928138515513344 4616189618054758400 = 0 := nd_some rby1_9
@[go_sem] theorem ol1_9 : FloatKind.f64.format.order 4686928138515513344 4823355200913801216 = some .lt := by decide +kernel
theorem rby1_10 : floatBits .mul .f64 4695935337770254336 4616189618054758400 = some 4704942537024995328 := by decide +kernel
@[go_sem] theorem rry1_10 (w : World) : fres .mul .f64 4695935337770254336 4616189618054758400 w = 4704942537024995328 := fres_some rby1_10 w
@[go_sem] theorem rny1_10 : nd .mul .f64 4695935337770254336 4616189618054758400 = 0 := nd_some rby1_10
@[go_sem] theorem ol1_10 : FloatKind.f64.format.order 4695935337770254336 4823355200913801216 = some .lt := by decide +kernel
theorem rby1_11 : floatBits .mul .f64 4704942537024995328 4616189618054758400 = some 4713949736279736320 := by decide +kernel
@[go_sem] theorem rry1_11 (w : World) : fres .mul .f64 4704942537024995328 4616189618054758400 w = 4713949736279736320 := fres_some rby1_11 w
@[go_sem] theorem rny1_11 : nd .mul .f64 4704942537024995328 4616189618054758400 = 0 := nd_some rby1_11
@[go_sem] theorem ol1_11 : FloatKind.f64.format.order 4704942537024995328 4823355200913801216 = some .lt := by decide +kernel
theorem rby1_12 : floatBits .mul .f64 4713949736279736320 4616189618054758400 = some 4722956935534477312 := by decide +kernel
@[go_sem] theorem rry1_12 (w : World) : fres .mul .f64 4713949736279736320 4616189618054758400 w = 4722956935534477312 := fres_some rby1_12 w
@[go_sem] theorem rny1_12 : nd .mul .f64 4713949736279736320 4616189618054758400 = 0 := nd_some rby1_12
@[go_sem] theorem ol1_12 : FloatKind.f64.format.order 4713949736279736320 4823355200913801216 = some .lt := by decide +kernel
theorem rby1_13 : floatBits .mul .f64 4722956935534477312 4616189618054758400 = some 4731964134789218304 := by decide +kernel
@[go_sem] theorem rry1_13 (w : World) : fres .mul .f64 4722956935534477312 4616189618054758400 w = 4731964134789218304 := fres_some rby1_13 w
@[go_sem] theorem rny1_13 : nd .mul .f64 4722956935534477312 4616189618054758400 = 0 := nd_some rby1_13
@[go_sem] theorem ol1_13 : FloatKind.f64.format.order 4722956935534477312 4823355200913801216 = some .lt := by decide +kernel
theorem rby1_14 : floatBits .mul .f64 4731964134789218304 4616189618054758400 = some 4740971334043959296 := by decide +kernel
@[go_sem] theorem rry1_14 (w : World) : fres .mul .f64 4731964134789218304 4616189618054758400 w = 4740971334043959296 := fres_some rby1_14 w
@[go_sem] theorem rny1_14 : nd .mul .f64 4731964134789218304 4616189618054758400 = 0 := nd_some rby1_14
@[go_sem] theorem ol1_14 : FloatKind.f64.format.order 4731964134789218304 4823355200913801216 = some .lt := by decide +kernel
theorem rby1_15 : floatBits .mul .f64 4740971334043959296 4616189618054758400 = some 4749978533298700288 := by decide +kernel
@[go_sem] theorem rry1_15 (w : World) : fres .mul .f64 4740971334043959296 4616189618054758400 w = 4749978533298700288 := fres_some rby1_15 w
@[go_sem] theorem rny1_15 : nd .mul .f64 4740971334043959296 4616189618054758400 = 0 := nd_some rby1_15
@[go_sem] theorem ol1_15 : FloatKind.f64.format.order 4740971334043959296 4823355200913801216 = some .lt := by decide +kernel
theorem rby1_16 : floatBits .mul .f64 4749978533298700288 4616189618054758400 = some 4758985732553441280 := by decide +kernel
@[go_sem] theorem rry1_16 (w : World) : fres .mul .f64 4749978533298700288 4616189618054758400 w = 4758985732553441280 := fres_some rby1_16 w
@[go_sem] theorem rny1_16 : nd .mul .f64 4749978533298700288 4616189618054758400 = 0 := nd_some rby1_16
@[go_sem] theorem ol1_16 : FloatKind.f64.format.order 4749978533298700288 4823355200913801216 = some .lt := by decide +kernel
theorem rby1_17 : floatBits .mul .f64 4758985732553441280 4616189618054758400 = some 4767992931808182272 := by decide +kernel
@[go_sem] theorem rry1_17 (w : World) : fres .mul .f64 4758985732553441280 4616189618054758400 w = 4767992931808182272 := fres_some rby1_17 w
@[go_sem] theorem rny1_17 : nd .mul .f64 4758985732553441280 4616189618054758400 = 0 := nd_some rby1_17
@[go_sem] theorem ol1_17 : FloatKind.f64.format.order 4758985732553441280 4823355200913801216 = some .lt := by decide +kernel
theorem rby1_18 : floatBits .mul .f64 4767992931808182272 4616189618054758400 = some 4777000131062923264 := by decide +kernel
@[go_sem] theorem rry1_18 (w : World) : fres .mul .f64 4767992931808182272 4616189618054758400 w = 4777000131062923264 := fres_some rby1_18 w
@[go_sem] theorem rny1_18 : nd .mul .f64 4767992931808182272 4616189618054758400 = 0 := nd_some rby1_18
@[go_sem] theorem ol1_18 : FloatKind.f64.format.order 4767992931808182272 4823355200913801216 = some .lt := by decide +kernel
theorem rby1_19 : floatBits .mul .f64 4777000131062923264 4616189618054758400 = some 4786007330317664256 := by decide +kernel
@[go_sem] theorem rry1_19 (w : World) : fres .mul .f64 4777000131062923264 4616189618054758400 w = 4786007330317664256 := fres_some rby1_19 w
@[go_sem] theorem rny1_19 : nd .mul .f64 4777000131062923264 4616189618054758400 = 0 := nd_some rby1_19
@[go_sem] theorem ol1_19 : FloatKind.f64.format.order 4777000131062923264 4823355200913801216 = some .lt := by decide +kernel
theorem rby1_20 : floatBits .mul .f64 4786007330317664256 4616189618054758400 = some 4795014529572405248 := by decide +kernel
@[go_sem] theorem rry1_20 (w : World) : fres .mul .f64 4786007330317664256 4616189618054758400 w = 4795014529572405248 := fres_some rby1_20 w
@[go_sem] theorem rny1_20 : nd .mul .f64 4786007330317664256 4616189618054758400 = 0 := nd_some rby1_20
@[go_sem] theorem ol1_20 : FloatKind.f64.format.order 4786007330317664256 4823355200913801216 = some .lt := by decide +kernel
theorem rby1_21 : floatBits .mul .f64 4795014529572405248 4616189618054758400 = some 4804021728827146240 := by decide +kernel
@[go_sem] theorem rry1_21 (w : World) : fres .mul .f64 4795014529572405248 4616189618054758400 w = 4804021728827146240 := fres_some rby1_21 w
@[go_sem] theorem rny1_21 : nd .mul .f64 4795014529572405248 4616189618054758400 = 0 := nd_some rby1_21
@[go_sem] theorem ol1_21 : FloatKind.f64.format.order 4795014529572405248 4823355200913801216 = some .lt := by decide +kernel
theorem rby1_22 : floatBits .mul .f64 4804021728827146240 4616189618054758400 = some 4813028928081887232 := by decide +kernel
@[go_sem] theorem rry1_22 (w : World) : fres .mul .f64 4804021728827146240 4616189618054758400 w = 4813028928081887232 := fres_some rby1_22 w
@[go_sem] theorem rny1_22 : nd .mul .f64 4804021728827146240 4616189618054758400 = 0 := nd_some rby1_22
@[go_sem] theorem ol1_22 : FloatKind.f64.format.order 4804021728827146240 4823355200913801216 = some .lt := by decide +kernel
theorem rby1_23 : floatBits .mul .f64 4813028928081887232 4616189618054758400 = some 4822036127336628224 := by decide +kernel
@[go_sem] theorem rry1_23 (w : World) : fres .mul .f64 4813028928081887232 4616189618054758400 w = 4822036127336628224 := fres_some rby1_23 w
@[go_sem] theorem rny1_23 : nd .mul .f64 4813028928081887232 4616189618054758400 = 0 := nd_some rby1_23
@[go_sem] theorem ol1_23 : FloatKind.f64.format.order 4813028928081887232 4823355200913801216 = some .lt := by decide +kernel
theorem rby1_24 : floatBits .mul .f64 4822036127336628224 4616189618054758400 = some 4831043326591369216 := by decide +kernel
@[go_sem] theorem rry1_24 (w : World) : fres .mul .f64 4822036127336628224 4616189618054758400 w = 4831043326591369216 := fres_some rby1_24 w
@[go_sem] theorem rny1_24 : nd .mul .f64 4822036127336628224 4616189618054758400 = 0 := nd_some rby1_24
@[go_sem] theorem ol1_24 : FloatKind.f64.format.order 4822036127336628224 4823355200913801216 = some .lt := by decide +kernel
@[go_sem] theorem og1 : FloatKind.f64.format.order 4831043326591369216 4823355200913801216 = some .gt := by decide +kernel
@[go_sem] theorem oh1 : FloatKind.f64.format.order 4831043326591369216 4832362400168542208 = some .lt := by decide +kernel
@[go_sem] theorem cv1 (w : World) : (convert 67 2 (.float .f64 4831043326591369216)).run Try.prog w = .ok (.int .i64 961015709696000) w := by kernel_rfl
@[go_sem] theorem fi1 : floatOfInt .f64 31000254 = 4719086777548144640 := by decide +kernel
theorem rbm1 : floatBits .mul .f64 4719086777548144640 4494592428115755008 = some 4606496786863882240 := by decide +kernel
@[go_sem] theorem rrm1 (w : World) : fres .mul .f64 4719086777548144640 4494592428115755008 w = 4606496786863882240 := fres_some rbm1 w
@[go_sem] theorem rnm1 : nd .mul .f64 4719086777548144640 4494592428115755008 = 0 := nd_some rbm1
theorem db1 : floatToFloatBits .f64 4606496786863882240 .f32 = some 1064076127 := by decide +kernel
@[go_sem] theorem dc1 (w : World) : (convert 67 43 (.float .f64 4606496786863882240)).run Try.prog w = .ok (.float .f32 1064076127) w := run_convert_float_float w 67 43 .f64 .f32 4606496786863882240 1064076127 (by rw [Try.underlying67]; rfl) Try.underlying43 db1

set_option maxRecDepth 10000 in
set_option maxHeartbeats 4000000 in
theorem l01Root1 (w : World) : Calls Try.prog 131 #[.float .f32 1062896250] w fun e w' => e = .returned (.float .f32 1064076127) ∧ w = w' := by
  go_enter Try.func131, Try.ntmps131
  go_wp2
  go_rounds 26
  go_rounds 1
  go_rounds 26
  go_rounds 1
  go_rounds 26
  go_ret
  exact ⟨rfl, rfl⟩

@[go_sem] theorem z2 : FloatKind.f32.format.order 1064714672 0 = some .gt := by decide +kernel
theorem ub2 : floatToFloatBits .f32 1064714672 .f64 = some 4606839603100385280 := by decide +kernel
@[go_sem] theorem uw2 (w : World) : wres 1064714672 w = 4606839603100385280 := wres_some ub2 w
@[go_sem] theorem un2 : nw 1064714672 = 0 := nw_some ub2
theorem rby2_0 : floatBits .mul .f64 4606839603100385280 4616189618054758400 = some 4615846802355126272 := by decide +kernel
@[go_sem] theorem rry2_0 (w : World) : fres .mul .f64 4606839603100385280 4616189618054758400 w = 4615846802355126272 := fres_some rby2_0 w
@[go_sem] theorem rny2_0 : nd .mul .f64 4606839603100385280 4616189618054758400 = 0 := nd_some rby2_0
@[go_sem] theorem ol2_0 : FloatKind.f64.format.order 4606839603100385280 4823355200913801216 = some .lt := by decide +kernel
theorem rby2_1 : floatBits .mul .f64 4615846802355126272 4616189618054758400 = some 4624854001609867264 := by decide +kernel
@[go_sem] theorem rry2_1 (w : World) : fres .mul .f64 4615846802355126272 4616189618054758400 w = 4624854001609867264 := fres_some rby2_1 w
@[go_sem] theorem rny2_1 : nd .mul .f64 4615846802355126272 4616189618054758400 = 0 := nd_some rby2_1
@[go_sem] theorem ol2_1 : FloatKind.f64.format.order 4615846802355126272 4823355200913801216 = some .lt := by decide +kernel
theorem rby2_2 : floatBits .mul .f64 4624854001609867264 4616189618054758400 = some 4633861200864608256 := by decide +kernel
@[go_sem] theorem rry2_2 (w : World) : fres .mul .f64 4624854001609867264 4616189618054758400 w = 4633861200864608256 := fres_some rby2_2 w
@[go_sem] theorem rny2_2 : nd .mul .f64 4624854001609867264 4616189618054758400 = 0 := nd_some rby2_2
@[go_sem] theorem ol2_2 : FloatKind.f64.format.order 4624854001609867264 4823355200913801216 = some .lt := by decide +kernel
theorem rby2_3 : floatBits .mul .f64 4633861200864608256 4616189618054758400 = some 4642868400119349248 := by decide +kernel
@[go_sem] theorem rry2_3 (w : World) : fres .mul .f64 4633861200864608256 4616189618054758400 w = 4642868400119349248 := fres_some rby2_3 w
@[go_sem] theorem rny2_3 : nd .mul .f64 4633861200864608256 4616189618054758400 = 0 := nd_some rby2_3
@[go_sem] theorem ol2_3 : FloatKind.f64.format.order 4633861200864608256 4823355200913801216 = some .lt := by decide +kernel
theorem rby2_4 : floatBits .mul .f64 4642868400119349248 4616189618054758400 = some 4651875599374090240 := by decide +kernel
@[go_sem] theorem rry2_4 (w : World) : fres .mul .f64 4642868400119349248 4616189618054758400 w = 4651875599374090240 := fres_some rby2_4 w
@[go_sem] theorem rny2_4 : nd .mul .f64 4642868400119349248 4616189618054758400 = 0 := nd_some rby2_4
@[go_sem] theorem ol2_4 : FloatKind.f64.format.order 4642868400119349248 4823355200913801216 = some .lt := by decide +kernel
theorem rby2_5 : floatBits .mul .f64 4651875599374090240 4616189618054758400 = some 4660882798628831232 := by decide +kernel
@[go_sem] theorem rry2_5 (w : World) : fres .mul .f64 4651875599374090240 4616189618054758400 w = 4660882798628831232 := fres_some rby2_5 w
@[go_sem] theorem rny2_5 : nd .mul .f64 4651875599374090240 4616189618054758400 = 0 := nd_some rby2_5
@[go_sem] theorem ol2_5 : FloatKind.f64.format.order 4651875599374090240 4823355200913801216 = some .lt := by decide +kernel
theorem rby2_6 : floatBits .mul .f64 4660882798628831232 4616189618054758400 = some 4669889997883572224 := by decide +kernel
@[go_sem] theorem rry2_6 (w : World) : fres .mul .f64 4660882798628831232 4616189618054758400 w = 4669889997883572224 := fres_some rby2_6 w
@[go_sem] theorem rny2_6 : nd .mul .f64 4660882798628831232 4616189618054758400 = 0 := nd_some rby2_6
@[go_sem] theorem ol2_6 : FloatKind.f64.format.order 4660882798628831232 4823355200913801216 = some .lt := by decide +kernel
theorem rby2_7 : floatBits .mul .f64 4669889997883572224 4616189618054758400 = some 4678897197138313216 := by decide +kernel
@[go_sem] theorem rry2_7 (w : World) : fres .mul .f64 4669889997883572224 4616189618054758400 w = 4678897197138313216 := fres_some rby2_7 w
@[go_sem] theorem rny2_7 : nd .mul .f64 4669889997883572224 4616189618054758400 = 0 := nd_some rby2_7
@[go_sem] theorem ol2_7 : FloatKind.f64.format.order 4669889997883572224 4823355200913801216 = some .lt := by decide +kernel
theorem rby2_8 : floatBits .mul .f64 4678897197138313216 4616189618054758400 = some 4687904396393054208 := by decide +kernel
@[go_sem] theorem rry2_8 (w : World) : fres .mul .f64 4678897197138313216 4616189618054758400 w = 4687904396393054208 := fres_some rby2_8 w
@[go_sem] theorem rny2_8 : nd .mul .f64 4678897197138313216 4616189618054758400 = 0 := nd_some rby2_8
@[go_sem] theorem ol2_8 : FloatKind.f64.format.order 4678897197138313216 4823355200913801216 = some .lt := by decide +kernel
theorem rby2_9 : floatBits .mul .f64 4687904396393054208 4616189618054758400 = some 4696911595647795200 := by decide +kernel
@[go_sem] theorem rry2_9 (w : World) : fres .mul .f64 4687904396393054208 4616189618054758400 w = 4696911595647795200 := fres_some rby2_9 w
@[go_sem] theorem rny2_9 : nd .mul .f64 4687904396393054208 4616189618054758400 = 0 := nd_some rby2_9
@[go_sem] theorem ol2_9 : FloatKind.f64.format.order 4687904396393054208 4823355200913801216 = some .lt := by decide +kernel
theorem rby2_10 : floatBits .mul .f64 4696911595647795200 4616189618054758400 = some 4705918794902536192 := by decide +kernel
@[go_sem] theorem rry2_10 (w : World) : fres .mul .f64 4696911595647795200 4616189618054758400 w = 4705918794902536192 := fres_some rby2_10 w
@[go_sem] theorem rny2_10 : nd .mul .f64 4696911595647795200 4616189618054758400 = 0 := nd_some rby2_10
@[go_sem] theorem ol2_10 : FloatKind.f64.format.order 4696911595647795200 4823355200913801216 = some .lt := by decide +kernel
theorem rby2_11 : floatBits .mul .f64 4705918794902536192 4616189618054758400 = some 4714925994157277184 := by decide +kernel
@[go_sem] theorem rry2_11 (w : World) : fres .mul .f64 4705918794902536192 4616189618054758400 w = 4714925994157277184 := fres_some rby2_11 w
@[go_sem] theorem rny2_11 : nd .mul .f64 4705918794902536192 4616189618054758400 = 0 := nd_some rby2_11
@[go_sem] theorem ol2_11 : FloatKind.f64.format.order 4705918794902536192 4823355200913801216 = some .lt := by decide +kernel
theorem rby2_12 : floatBits .mul .f64 4714925994157277184 4616189618054758400 = some 4723933193412018176 := by decide +kernel
@[go_sem] theorem rry2_12 (w : World) : fres .mul .f64 4714925994157277184 4616189618054758400 w = 4723933193412018176 := fres_some rby2_12 w
@[go_sem] theorem rny2_12 : nd .mul .f64 4714925994157277184 4616189618054758400 = 0 := nd_some rby2_12
@[go_sem] theorem ol2_12 : FloatKind.f64.format.order 4714925994157277184 4823355200913801216 = some .lt := by decide +kernel
theorem rby2_13 : floatBits .mul .f64 4723933193412018176 4616189618054758400 = some 4732940392666759168 := by decide +kernel
@[go_sem] theorem rry2_13 (w : World) : fres .mul .f64 4723933193412018176 4616189618054758400 w = 4732940392666759168 := fres_some rby2_13 w
@[go_sem] theorem rny2_13 : nd .mul .f64 4723933193412018176 4616189618054758400 = 0 := nd_some rby2_13
@[go_sem] theorem ol2_13 : FloatKind.f64.format.order 4723933193412018176 4823355200913801216 = some .lt := by decide +kernel
theorem rby2_14 : floatBits .mul .f64 4732940392666759168 4616189618054758400 = some 4741947591921500160 := by decide +kernel
@[go_sem] theorem rry2_14 (w : World) : fres .mul .f64 4732940392666759168 4616189618054758400 w = 4741947591921500160 := fres_some rby2_14 w
@[go_sem] theorem rny2_14 : nd .mul .f64 4732940392666759168 4616189618054758400 = 0 := nd_some rby2_14
@[go_sem] theorem ol2_14 : FloatKind.f64.format.order 4732940392666759168 4823355200913801216 = some .lt := by decide +kernel
theorem rby2_15 : floatBits .mul .f64 4741947591921500160 4616189618054758400 = some 4750954791176241152 := by decide +kernel
@[go_sem] theorem rry2_15 (w : World) : fres .mul .f64 4741947591921500160 4616189618054758400 w = 4750954791176241152 := fres_some rby2_15 w
@[go_sem] theorem rny2_15 : nd .mul .f64 4741947591921500160 4616189618054758400 = 0 := nd_some rby2_15
@[go_sem] theorem ol2_15 : FloatKind.f64.format.order 4741947591921500160 4823355200913801216 = some .lt := by decide +kernel
theorem rby2_16 : floatBits .mul .f64 4750954791176241152 4616189618054758400 = some 4759961990430982144 := by decide +kernel
@[go_sem] theorem rry2_16 (w : World) : fres .mul .f64 4750954791176241152 4616189618054758400 w = 4759961990430982144 := fres_some rby2_16 w
@[go_sem] theorem rny2_16 : nd .mul .f64 4750954791176241152 4616189618054758400 = 0 := nd_some rby2_16
@[go_sem] theorem ol2_16 : FloatKind.f64.format.order 4750954791176241152 4823355200913801216 = some .lt := by decide +kernel
theorem rby2_17 : floatBits .mul .f64 4759961990430982144 4616189618054758400 = some 4768969189685723136 := by decide +kernel
@[go_sem] theorem rry2_17 (w : World) : fres .mul .f64 4759961990430982144 4616189618054758400 w = 4768969189685723136 := fres_some rby2_17 w
@[go_sem] theorem rny2_17 : nd .mul .f64 4759961990430982144 4616189618054758400 = 0 := nd_some rby2_17
@[go_sem] theorem ol2_17 : FloatKind.f64.format.order 4759961990430982144 4823355200913801216 = some .lt := by decide +kernel
theorem rby2_18 : floatBits .mul .f64 4768969189685723136 4616189618054758400 = some 4777976388940464128 := by decide +kernel
@[go_sem] theorem rry2_18 (w : World) : fres .mul .f64 4768969189685723136 4616189618054758400 w = 4777976388940464128 := fres_some rby2_18 w
@[go_sem] theorem rny2_18 : nd .mul .f64 4768969189685723136 4616189618054758400 = 0 := nd_some rby2_18
@[go_sem] theorem ol2_18 : FloatKind.f64.format.order 4768969189685723136 4823355200913801216 = some .lt := by decide +kernel
theorem rby2_19 : floatBits .mul .f64 4777976388940464128 4616189618054758400 = some 4786983588195205120 := by decide +kernel
@[go_sem] theorem rry2_19 (w : World) : fres .mul .f64 4777976388940464128 4616189618054758400 w = 4786983588195205120 := fres_some rby2_19 w
@[go_sem] theorem rny2_19 : nd .mul .f64 4777976388940464128 4616189618054758400 = 0 := nd_some rby2_19
@[go_sem] theorem ol2_19 : FloatKind.f64.format.order 4777976388940464128 4823355200913801216 = some .lt := by decide +kernel
theorem rby2_20 : floatBits .mul .f64 4786983588195205120 4616189618054758400 = some 4795990787449946112 := by decide +kernel
@[go_sem] theorem rry2_20 (w : World) : fres .mul .f64 4786983588195205120 4616189618054758400 w = 4795990787449946112 := fres_some rby2_20 w
@[go_sem] theorem rny2_20 : nd .mul .f64 4786983588195205120 4616189618054758400 = 0 := nd_some rby2_20
@[go_sem] theorem ol2_20 : FloatKind.f64.format.order 4786983588195205120 4823355200913801216 = some .lt := by decide +kernel
theorem rby2_21 : floatBits .mul .f64 4795990787449946112 4616189618054758400 = some 4804997986704687104 := by decide +kernel
@[go_sem] theorem rry2_21 (w : World) : fres .mul .f64 4795990787449946112 4616189618054758400 w = 4804997986704687104 := fres_some rby2_21 w
@[go_sem] theorem rny2_21 : nd .mul .f64 4795990787449946112 4616189618054758400 = 0 := nd_some rby2_21
@[go_sem] theorem ol2_21 : FloatKind.f64.format.order 4795990787449946112 4823355200913801216 = some .lt := by decide +kernel
theorem rby2_22 : floatBits .mul .f64 4804997986704687104 4616189618054758400 = some 4814005185959428096 := by decide +kernel
@[go_sem] theorem rry2_22 (w : World) : fres .mul .f64 4804997986704687104 4616189618054758400 w = 4814005185959428096 := fres_some rby2_22 w
@[go_sem] theorem rny2_22 : nd .mul .f64 4804997986704687104 4616189618054758400 = 0 := nd_some rby2_22
@[go_sem] theorem ol2_22 : FloatKind.f64.format.order 4804997986704687104 4823355200913801216 = some .lt := by decide +kernel
theorem rby2_23 : floatBits .mul .f64 4814005185959428096 4616189618054758400 = some 4823012385214169088 := by decide +kernel
@[go_sem] theorem rry2_23 (w : World) : fres .mul .f64 4814005185959428096 4616189618054758400 w = 4823012385214169088 := fres_some rby2_23 w
@[go_sem] theorem rny2_23 : nd .mul .f64 4814005185959428096 4616189618054758400 = 0 := nd_some rby2_23
@[go_sem] theorem ol2_23 : FloatKind.f64.format.order 4814005185959428096 4823355200913801216 = some .lt := by decide +kernel
theorem rby2_24 : floatBits .mul .f64 4823012385214169088 4616189618054758400 = some 4832019584468910080 := by decide +kernel
@[go_sem] theorem rry2_24 (w : World) : fres .mul .f64 4823012385214169088 4616189618054758400 w = 4832019584468910080 := fres_some rby2_24 w
@[go_sem] theorem rny2_24 : nd .mul .f64 4823012385214169088 4616189618054758400 = 0 := nd_some rby2_24
@[go_sem] theorem ol2_24 : FloatKind.f64.format.order 4823012385214169088 4823355200913801216 = some .lt := by decide +kernel
@[go_sem] theorem og2 : FloatKind.f64.format.order 4832019584468910080 4823355200913801216 = some .gt := by decide +kernel
@[go_sem] theorem oh2 : FloatKind.f64.format.order 4832019584468910080 4832362400168542208 = some .lt := by decide +kernel
@[go_sem] theorem cv2 (w : World) : (convert 67 2 (.float .f64 4832019584468910080)).run Try.prog w = .ok (.int .i64 1083047944388608) w := by kernel_rfl
@[go_sem] theorem fi2 : floatOfInt .f64 32909694 = 4719599338945249280 := by decide +kernel
theorem rbm2 : floatBits .mul .f64 4719599338945249280 4494592428115755008 = some 4607009348260986880 := by decide +kernel
@[go_sem] theorem rrm2 (w : World) : fres .mul .f64 4719599338945249280 4494592428115755008 w = 4607009348260986880 := fres_some rbm2 w
@[go_sem] theorem rnm2 : nd .mul .f64 4719599338945249280 4494592428115755008 = 0 := nd_some rbm2
theorem db2 : floatToFloatBits .f64 4607009348260986880 .f32 = some 1065030847 := by decide +kernel
@[go_sem] theorem dc2 (w : World) : (convert 67 43 (.float .f64 4607009348260986880)).run Try.prog w = .ok (.float .f32 1065030847) w := run_convert_float_float w 67 43 .f64 .f32 4607009348260986880 1065030847 (by rw [Try.underlying67]; rfl) Try.underlying43 db2

set_option maxRecDepth 10000 in
set_option maxHeartbeats 4000000 in
theorem l01Root2 (w : World) : Calls Try.prog 131 #[.float .f32 1064714672] w fun e w' => e = .returned (.float .f32 1065030847) ∧ w = w' := by
  go_enter Try.func131, Try.ntmps131
  go_wp2
  go_rounds 26
  go_rounds 1
  go_rounds 26
  go_rounds 1
  go_rounds 26
  go_ret
  exact ⟨rfl, rfl⟩

@[go_sem] theorem z3 : FloatKind.f32.format.order 1065192032 0 = some .gt := by decide +kernel
theorem ub3 : floatToFloatBits .f32 1065192032 .f64 = some 4607095883798937600 := by decide +kernel
@[go_sem] theorem uw3 (w : World) : wres 1065192032 w = 4607095883798937600 := wres_some ub3 w
@[go_sem] theorem un3 : nw 1065192032 = 0 := nw_some ub3
theorem rby3_0 : floatBits .mul .f64 4607095883798937600 4616189618054758400 = some 4616103083053678592 := by decide +kernel
@[go_sem] theorem rry3_0 (w : World) : fres .mul .f64 4607095883798937600 4616189618054758400 w = 4616103083053678592 := fres_some rby3_0 w
@[go_sem] theorem rny3_0 : nd .mul .f64 4607095883798937600 4616189618054758400 = 0 := nd_some rby3_0
@[go_sem] theorem ol3_0 : FloatKind.f64.format.order 4607095883798937600 4823355200913801216 = some .lt := by decide +kernel
theorem rby3_1 : floatBits .mul .f64 4616103083053678592 4616189618054758400 = some 4625110282308419584 := by decide +kernel
@[go_sem] theorem rry3_1 (w : World) : fres .mul .f64 4616103083053678592 4616189618054758400 w = 4625110282308419584 := fres_some rby3_1 w
@[go_sem] theorem rny3_1 : nd .mul .f64 4616103083053678592 4616189618054758400 = 0 := nd_some rby3_1
@[go_sem] theorem ol3_1 : FloatKind.f64.format.order 4616103083053678592 4823355200913801216 = some .lt := by decide +kernel
theorem rby3_2 : floatBits .mul .f64 4625110282308419584 4616189618054758400 = some 4634117481563160576 := by decide +kernel
@[go_sem] theorem rry3_2 (w : World) : fres .mul .f64 4625110282308419584 4616189618054758400 w = 4634117481563160576 := fres_some rby3_2 w
@[go_sem] theorem rny3_2 : nd .mul .f64 4625110282308419584 4616189618054758400 = 0 := nd_some rby3_2
@[go_sem] theorem ol3_2 : FloatKind.f64.format.order 4625110282308419584 4823355200913801216 = some .lt := by decide +kernel
theorem rby3_3 : floatBits .mul .f64 4634117481563160576 4616189618054758400 = some 4643124680817901568 := by decide +kernel
@[go_sem] theorem rry3_3 (w : World) : fres .mul .f64 4634117481563160576 4616189618054758400 w = 4643124680817901568 := fres_some rby3_3 w
@[go_sem] theorem rny3_3 : nd .mul .f64 4634117481563160576 4616189618054758400 = 0 := nd_some rby3_3
@[go_sem] theorem ol3_3 : FloatKind.f64.format.order 4634117481563160576 4823355200913801216 = some .lt := by decide +kernel
theorem rby3_4 : floatBits .mul .f64 4643124680817901568 4616189618054758400 = some 4652131880072642560 := by decide +kernel
@[go_sem] theorem rry3_4 (w : World) : fres .mul .f64 4643124680817901568 4616189618054758400 w = 4652131880072642560 := fres_some rby3_4 w
@[go_sem] theorem rny3_4 : nd .mul .f64 4643124680817901568 4616189618054758400 = 0 := nd_some rby3_4
@[go_sem] theorem ol3_4 : FloatKind.f64.format.order 4643124680817901568 4823355200913801216 = some .lt := by decide +kernel
theorem rby3_5 : floatBits .mul .f64 4652131880072642560 4616189618054758400 = some 4661139079327383552 := by decide +kernel
@[go_sem] theorem rry3_5 (w : World) : fres .mul .f64 4652131880072642560 4616189618054758400 w = 4661139079327383552 := fres_some rby3_5 w
@[go_sem] theorem rny3_5 : nd .mul .f64 4652131880072642560 4616189618054758400 = 0 := nd_some rby3_5
@[go_sem] theorem ol3_5 : FloatKind.f64.format.order 4652131880072642560 4823355200913801216 = some .lt := by decide +kernel
theorem rby3_6 : floatBits .mul .f64 4661139079327383552 4616189618054758400 = some 4670146278582124544 := by decide +kernel
@[go_sem] theorem rry3_6 (w : World) : fres .mul .f64 4661139079327383552 4616189618054758400 w = 4670146278582124544 := fres_some rby3_6 w
@[go_sem] theorem rny3_6 : nd .mul .f64 4661139079327383552 4616189618054758400 = 0 := nd_some rby3_6
@[go_sem] theorem ol3_6 : FloatKind.f64.format.order 4661139079327383552 4823355200913801216 = some .lt := by decide +kernel
theorem rby3_7 : floatBits .mul .f64 4670146278582124544 4616189618054758400 = some 4679153477836865536 := by decide +kernel
@[go_sem] theorem rry3_7 (w : World) : fres .mul .f64 4670146278582124544 4616189618054758400 w = 4679153477836865536 := fres_some rby3_7 w
@[go_sem] theorem rny3_7 : nd .mul .f64 4670146278582124544 4616189618054758400 = 0 := nd_some rby3_7
@[go_sem] theorem ol3_7 : FloatKind.f64.format.order 4670146278582124544 4823355200913801216 = some .lt := by decide +kernel
theorem rby3_8 : floatBits .mul .f64 4679153477836865536 4616189618054758400 = some 4688160677091606528 := by decide +kernel
@[go_sem] theorem rry3_8 (w : World) : fres .mul .f64 4679153477836865536 4616189618054758400 w = 4688160677091606528 := fres_some rby3_8 w
@[go_sem] theorem rny3_8 : nd .mul .f64 4679153477836865536 4616189618054758400 = 0 := nd_some rby3_8
@[go_sem] theorem ol3_8 : FloatKind.f64.format.order 4679153477836865536 4823355200913801216 = some .lt := by decide +kernel
theorem rby3_9 : floatBits .mul .f64 4688160677091606528 4616189618054758400 = some 4697167876346347520 := by decide +kernel
@[go_sem] theorem rry3_9 (w : World) : fres .mul .f64 4688160677091606528 4616189618054758400 w = 4697167876346347520 := fres_some rby3_9 w
@[go_sem] theorem rny3_9 : nd .mul .f64 4688160677091606528 4616189618054758400 = 0 := nd_some rby3_9
@[go_sem] theorem ol3_9 : FloatKind.f64.format.order 4688160677091606528 4823355200913801216 = some .lt := by decide +kernel
theorem rby3_10 : floatBits .mul .f64 4697167876346347520 4616189618054758400 = some 4706175075601088512 := by decide +kernel
@[go_sem] theorem rry3_10 (w : World) : fres .mul .f64 4697167876346347520 4616189618054758400 w = 4706175075601088512 := fres_some rby3_10 w
@[go_sem] theorem rny3_10 : nd .mul .f64 4697167876346347520 4616189618054758400 = 0 := nd_some rby3_10
@[go_sem] theorem ol3_10 : FloatKind.f64.format.order 4697167876346347520 4823355200913801216 = some .lt := by decide +kernel
theorem rby3_11 : floatBits .mul .f64 4706175075601088512 4616189618054758400 = some 4715182274855829504 := by decide +kernel
@[go_sem] theorem rry3_11 (w : World) : fres .mul .f64 4706175075601088512 4616189618054758400 w = 4715182274855829504 := fres_some rby3_11 w
@[go_sem] theorem rny3_11 : nd .mul .f64 4706175075601088512 4616189618054758400 = 0 := nd_some rby3_11
@[go_sem] theorem ol3_11 : FloatKind.f64.format.order 4706175075601088512 4823355200913801216 = some .lt := by decide +kernel
theorem rby3_12 : floatBits .mul .f64 4715182274855829504 4616189618054758400 = some 4724189474110570496 := by decide +kernel
@[go_sem] theorem rry3_12 (w : World) : fres .mul .f64 4715182274855829504 4616189618054758400 w = 4724189474110570496 := fres_some rby3_12 w
@[go_sem] theorem rny3_12 : nd .mul .f64 4715182274855829504 4616189618054758400 = 0 := nd_some rby3_12
@[go_sem] theorem ol3_12 : FloatKind.f64.format.order 4715182274855829504 4823355200913801216 = some .lt := by decide +kernel
theorem rby3_13 : floatBits .mul .f64 4724189474110570496 4616189618054758400 = some 4733196673365311488 := by decide +kernel
@[go_sem] theorem rry3_13 (w : World) : fres .mul .f64 4724189474110570496 4616189618054758400 w = 4733196673365311488 := fres_some rby3_13 w
@[go_sem] theorem rny3_13 : nd .mul .f64 4724189474110570496 4616189618054758400 = 0 := nd_some rby3_13
@[go_sem] theorem ol3_13 : FloatKind.f64.format.order 4724189474110570496 4823355200913801216 = some .lt := by decide +kernel
theorem rby3_14 : floatBits .mul .f64 4733196673365311488 4616189618054758400 = some 4742203872620052480 := by decide +kernel
@[go_sem] theorem rry3_14 (w : World) : fres .mul .f64 4733196673365311488 4616189618054758400 w = 4742203872620052480 := fres_some rby3_14 w
@[go_sem] theorem rny3_14 : nd .mul .f64 4733196673365311488 4616189618054758400 = 0 := nd_some rby3_14
@[go_sem] theorem ol3_14 : FloatKind.f64.format.order 4733196673365311488 4823355200913801216 = some .lt := by decide +kernel
theorem rby3_15 : floatBits .mul .f64 4742203872620052480 4616189618054758400 = some 4751211071874793472 := by decide +kernel
@[go_sem] theorem rry3_15 (w : World) : fres .mul .f64 4742203872620052480 4616189618054758400 w = 4751211071874793472 := fres_some rby3_15 w
@[go_sem] theorem rny3_15 : nd .mul .f64 4742203872620052480 4616189618054758400 = 0 := nd_some rby3_15
@[go_sem] theorem ol3_15 : FloatKind.f64.format.order 4742203872620052480 4823355200913801216 = some .lt := by decide +kernel
theorem rby3_16 : floatBits .mul .f64 4751211071874793472 4616189618054758400 = some 4760218271129534464 := by decide +kernel
@[go_sem] theorem rry3_16 (w : World) : fres .mul .f64 4751211071874793472 4616189618054758400 w = 4760218271129534464 := fres_some rby3_16 w
@[go_sem] theorem rny3_16 : nd .mul .f64 4751211071874793472 4616189618054758400 = 0 := nd_some rby3_16
@[go_sem] theorem ol3_16 : FloatKind.f64.format.order 4751211071874793472 4823355200913801216 = some .lt := by decide +kernel
theorem rby3_17 : floatBits .mul .f64 4760218271129534464 4616189618054758400 = some 4769225470384275456 := by decide +kernel
@[go_sem] theorem rry3_17 (w : World) : fres .mul .f64 4760218271129534464 4616189618054758400 w = 4769225470384275456 := fres_some rby3_17 w
@[go_sem] theorem rny3_17 : nd .mul .f64 4760218271129534464 4616189618054758400 = 0 := nd_some rby3_17
@[go_sem] theorem ol3_17 : FloatKind.f64.format.order 4760218271129534464 4823355200913801216 = some .lt := by decide +kernel
theorem rby3_18 : floatBits .mul .f64 4769225470384275456 4616189618054758400 = some 4778232669639016448 := by decide +kernel
@[go_sem] theorem rry3_18 (w : World) : fres .mul .f64 4769225470384275456 4616189618054758400 w = 4778232669639016448 := fres_some rby3_18 w
@[go_sem] theorem rny3_18 : nd .mul .f64 4769225470384275456 4616189618054758400 = 0 := nd_some rby3_18
@[go_sem] theorem ol3_18 : FloatKind.f64.format.order 4769225470384275456 4823355200913801216 = some .lt := by decide +kernel
theorem rby3_19 : floatBits .mul .f64 4778232669639016448 4616189618054758400 = some 4787239868893757440 := by decide +kernel
@[go_sem] theorem rry3_19 (w : World) : fres .mul .f64 4778232669639016448 4616189618054758400 w = 4787239868893757440 := fres_some rby3_19 w
@[go_sem] theorem rny3_19 : nd .mul .f64 4778232669639016448 4616189618054758400 = 0 := nd_some rby3_19
@[go_sem] theorem ol3_19 : FloatKind.f64.format.order 4778232669639016448 4823355200913801216 = some .lt := by decide +kernel
theorem rby3_20 : floatBits .mul .f64 4787239868893757440 4616189618054758400 = some 4796247068148498432 := by decide +kernel
@[go_sem] theorem rry3_20 (w : World) : fres .mul .f64 4787239868893757440 4616189618054758400 w = 4796247068148498432 := fres_some rby3_20 w
@[go_sem] theorem rny3_20 : nd .mul .f64 4787239868893757440 4616189618054758400 = 0 := nd_some rby3_20
@[go_sem] theorem ol3_20 : FloatKind.f64.format.order 4787239868893757440 4823355200913801216 = some .lt := by decide +kernel
theorem rby3_21 : floatBits .mul .f64 4796247068148498432 4616189618054758400 = some 4805254267403239424 := by decide +kernel
@[go_sem] theorem rry3_21 (w : World) : fres .mul .f64 4796247068148498432 4616189618054758400 w = 4805254267403239424 := fres_some rby3_21 w
@[go_sem] theorem rny3_21 : nd .mul .f64 4796247068148498432 4616189618054758400 = 0 := nd_some rby3_21
@[go_sem] theorem ol3_21 : FloatKind.f64.format.order 4796247068148498432 4823355200913801216 = some .lt := by decide +kernel
theorem rby3_22 : floatBits .mul .f64 4805254267403239424 4616189618054758400 = some 4814261466657980416 := by decide +kernel
@[go_sem] theorem rry3_22 (w : World) : fres .mul .f64 4805254267403239424 4616189618054758400 w = 4814261466657980416 := fres_some rby3_22 w
@[go_sem] theorem rny3_22 : nd .mul .f64 4805254267403239424 4616189618054758400 = 0 := nd_some rby3_22
@[go_sem] theorem ol3_22 : FloatKind.f64.format.order 4805254267403239424 4823355200913801216 = some .lt := by decide +kernel
theorem rby3_23 : floatBits .mul .f64 4814261466657980416 4616189618054758400 = some 4823268665912721408 := by decide +kernel
@[go_sem] theorem rry3_23 (w : World) : fres .mul .f64 4814261466657980416 4616189618054758400 w = 4823268665912721408 := fres_some rby3_23 w
@[go_sem] theorem rny3_23 : nd .mul .f64 4814261466657980416 4616189618054758400 = 0 := nd_some rby3_23
@[go_sem] theorem ol3_23 : FloatKind.f64.format.order 4814261466657980416 4823355200913801216 = some .lt := by decide +kernel
theorem rby3_24 : floatBits .mul .f64 4823268665912721408 4616189618054758400 = some 4832275865167462400 := by decide +kernel
@[go_sem] theorem rry3_24 (w : World) : fres .mul .f64 4823268665912721408 4616189618054758400 w = 4832275865167462400 := fres_some rby3_24 w
@[go_sem] theorem rny3_24 : nd .mul .f64 4823268665912721408 4616189618054758400 = 0 := nd_some rby3_24
@[go_sem] theorem ol3_24 : FloatKind.f64.format.order 4823268665912721408 4823355200913801216 = some .lt := by decide +kernel
@[go_sem] theorem og3 : FloatKind.f64.format.order 4832275865167462400 4823355200913801216 = some .gt := by decide +kernel
@[go_sem] theorem oh3 : FloatKind.f64.format.order 4832275865167462400 4832362400168542208 = some .lt := by decide +kernel
@[go_sem] theorem cv3 (w : World) : (convert 67 2 (.float .f64 4832275865167462400)).run Try.prog w = .ok (.int .i64 1115083031707648) w := by kernel_rfl
@[go_sem] theorem fi3 : floatOfInt .f64 33392858 = 4719729037293912064 := by decide +kernel
theorem rbm3 : floatBits .mul .f64 4719729037293912064 4494592428115755008 = some 4607139046609649664 := by decide +kernel
@[go_sem] theorem rrm3 (w : World) : fres .mul .f64 4719729037293912064 4494592428115755008 w = 4607139046609649664 := fres_some rbm3 w
@[go_sem] theorem rnm3 : nd .mul .f64 4719729037293912064 4494592428115755008 = 0 := nd_some rbm3
theorem db3 : floatToFloatBits .f64 4607139046609649664 .f32 = some 1065272429 := by decide +kernel
@[go_sem] theorem dc3 (w : World) : (convert 67 43 (.float .f64 4607139046609649664)).run Try.prog w = .ok (.float .f32 1065272429) w := run_convert_float_float w 67 43 .f64 .f32 4607139046609649664 1065272429 (by rw [Try.underlying67]; rfl) Try.underlying43 db3

set_option maxRecDepth 10000 in
set_option maxHeartbeats 4000000 in
theorem l01Root3 (w : World) : Calls Try.prog 131 #[.float .f32 1065192032] w fun e w' => e = .returned (.float .f32 1065272429) ∧ w = w' := by
  go_enter Try.func131, Try.ntmps131
  go_wp2
  go_rounds 26
  go_rounds 1
  go_rounds 26
  go_rounds 1
  go_rounds 26
  go_ret
  exact ⟨rfl, rfl⟩

end Go.Proofs.Ytficghohflmdeaa
