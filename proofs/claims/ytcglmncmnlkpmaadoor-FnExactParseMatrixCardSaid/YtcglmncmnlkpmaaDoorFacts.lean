/- The facts on this translation's types and functions. -/
import Derived.Test.YtcglmncmnlkpmaaDoorRows
import Derived.Test.YtcglmncmnlkpmaaDoorStr
import Derived.Test.YtcglmncmnlkpmaaDoorSeq
namespace Go.Proofs.YtcglmncmnlkpmaaDoor
theorem hmix : Tryd.prog.follows .mixedOrders = true := by kernel_rfl
theorem he_int : ElT Tryd.prog 3 (.int .i64 0) 8 := .mk_ (by kernel_rfl)
theorem he_bool : ElT Tryd.prog 4 (.bool false) 1 := .mk_ (by kernel_rfl)
theorem hu_int : Tryd.prog.underlying 3 = some (.int .i64) := Tryd.underlying3
theorem hu_bool : Tryd.prog.underlying 4 = some .bool := Tryd.underlying4
theorem sc_int : Sc Tryd.prog 3 := .int hu_int
theorem sc_bool : Sc Tryd.prog 4 := .bool hu_bool
theorem hu_I : Tryd.prog.underlying 33 = some (.slice 3) := Tryd.underlying33
theorem ht_I : SlT Tryd.prog 33 3 := .mk_ hu_I he_int
theorem he_I : ElT Tryd.prog 33 (.slice none 0 0) 24 := .mk_ (by kernel_rfl)
theorem sc_I : Sc Tryd.prog 33 := .slice hu_I
theorem hu_M : Tryd.prog.underlying 22 = some (.slice 33) := Tryd.underlying22
theorem ht_M : SlT Tryd.prog 22 33 := .mk_ hu_M he_I
theorem he_M : ElT Tryd.prog 22 (.slice none 0 0) 24 := .mk_ (by kernel_rfl)
theorem sc_M : Sc Tryd.prog 22 := .slice hu_M
theorem hi_int : (Tryd.prog.underlying 3).isSome = true := by rw [hu_int]; rfl
theorem he_u8 : ElT Tryd.prog 5 (.int .u8 0) 1 := .mk_ (by kernel_rfl)
theorem hu_u8 : Tryd.prog.underlying 5 = some (.int .u8) := Tryd.underlying5
theorem he_str : ElT Tryd.prog 9 (.string ⟨#[]⟩) 16 := .mk_ (by kernel_rfl)
theorem hu_str : Tryd.prog.underlying 9 = some (.string) := Tryd.underlying9
theorem hi_u8 : (Tryd.prog.underlying 5).isSome = true := by rw [hu_u8]; rfl
theorem hI_err : Tryd.prog.isIface 55 = true := by kernel_rfl
theorem sc_str : Sc Tryd.prog 9 := .string hu_str
theorem hu_T : Tryd.prog.underlying 37 = some (.slice 9) := Tryd.underlying37
theorem ht_T : SlT Tryd.prog 37 9 := .mk_ hu_T he_str
theorem he_T : ElT Tryd.prog 37 (.slice none 0 0) 24 := .mk_ (by kernel_rfl)
theorem sc_T : Sc Tryd.prog 37 := .slice hu_T
theorem hu_U : Tryd.prog.underlying 51 = some (.slice 5) := Tryd.underlying51
theorem ht_U : SlT Tryd.prog 51 5 := .mk_ hu_U he_u8
theorem he_U : ElT Tryd.prog 51 (.slice none 0 0) 24 := .mk_ (by kernel_rfl)
theorem sc_U : Sc Tryd.prog 51 := .slice hu_U
theorem is_3 : Is Tryd.prog 3 := ⟨_, Tryd.func3, by kernel_rfl, by kernel_rfl⟩
theorem is_4 : Is Tryd.prog 4 := ⟨_, Tryd.func4, by kernel_rfl, by kernel_rfl⟩
theorem is_5 : Is Tryd.prog 5 := ⟨_, Tryd.func5, by kernel_rfl, by kernel_rfl⟩
theorem is_6 : Is Tryd.prog 6 := ⟨_, Tryd.func6, by kernel_rfl, by kernel_rfl⟩
theorem is_7 : Is Tryd.prog 7 := ⟨_, Tryd.func7, by kernel_rfl, by kernel_rfl⟩
theorem is_8 : Is Tryd.prog 8 := ⟨_, Tryd.func8, by kernel_rfl, by kernel_rfl⟩
theorem is_9 : Is Tryd.prog 9 := ⟨_, Tryd.func9, by kernel_rfl, by kernel_rfl⟩
theorem is_10 : Is Tryd.prog 10 := ⟨_, Tryd.func10, by kernel_rfl, by kernel_rfl⟩
theorem is_11 : Is Tryd.prog 11 := ⟨_, Tryd.func11, by kernel_rfl, by kernel_rfl⟩
theorem is_12 : Is Tryd.prog 12 := ⟨_, Tryd.func12, by kernel_rfl, by kernel_rfl⟩
theorem is_13 : Is Tryd.prog 13 := ⟨_, Tryd.func13, by kernel_rfl, by kernel_rfl⟩
theorem is_14 : Is Tryd.prog 14 := ⟨_, Tryd.func14, by kernel_rfl, by kernel_rfl⟩
theorem is_15 : Is Tryd.prog 15 := ⟨_, Tryd.func15, by kernel_rfl, by kernel_rfl⟩
theorem is_16 : Is Tryd.prog 16 := ⟨_, Tryd.func16, by kernel_rfl, by kernel_rfl⟩
theorem is_17 : Is Tryd.prog 17 := ⟨_, Tryd.func17, by kernel_rfl, by kernel_rfl⟩
theorem is_18 : Is Tryd.prog 18 := ⟨_, Tryd.func18, by kernel_rfl, by kernel_rfl⟩
theorem is_19 : Is Tryd.prog 19 := ⟨_, Tryd.func19, by kernel_rfl, by kernel_rfl⟩
theorem is_20 : Is Tryd.prog 20 := ⟨_, Tryd.func20, by kernel_rfl, by kernel_rfl⟩
theorem is_21 : Is Tryd.prog 21 := ⟨_, Tryd.func21, by kernel_rfl, by kernel_rfl⟩
theorem is_22 : Is Tryd.prog 22 := ⟨_, Tryd.func22, by kernel_rfl, by kernel_rfl⟩
theorem is_23 : Is Tryd.prog 23 := ⟨_, Tryd.func23, by kernel_rfl, by kernel_rfl⟩
theorem is_24 : Is Tryd.prog 24 := ⟨_, Tryd.func24, by kernel_rfl, by kernel_rfl⟩
theorem is_25 : Is Tryd.prog 25 := ⟨_, Tryd.func25, by kernel_rfl, by kernel_rfl⟩
theorem is_26 : Is Tryd.prog 26 := ⟨_, Tryd.func26, by kernel_rfl, by kernel_rfl⟩
theorem is_27 : Is Tryd.prog 27 := ⟨_, Tryd.func27, by kernel_rfl, by kernel_rfl⟩
theorem is_28 : Is Tryd.prog 28 := ⟨_, Tryd.func28, by kernel_rfl, by kernel_rfl⟩
theorem is_29 : Is Tryd.prog 29 := ⟨_, Tryd.func29, by kernel_rfl, by kernel_rfl⟩
theorem is_30 : Is Tryd.prog 30 := ⟨_, Tryd.func30, by kernel_rfl, by kernel_rfl⟩
theorem is_31 : Is Tryd.prog 31 := ⟨_, Tryd.func31, by kernel_rfl, by kernel_rfl⟩
theorem is_32 : Is Tryd.prog 32 := ⟨_, Tryd.func32, by kernel_rfl, by kernel_rfl⟩
theorem is_33 : Is Tryd.prog 33 := ⟨_, Tryd.func33, by kernel_rfl, by kernel_rfl⟩
theorem is_34 : Is Tryd.prog 34 := ⟨_, Tryd.func34, by kernel_rfl, by kernel_rfl⟩
theorem is_35 : Is Tryd.prog 35 := ⟨_, Tryd.func35, by kernel_rfl, by kernel_rfl⟩
theorem is_36 : Is Tryd.prog 36 := ⟨_, Tryd.func36, by kernel_rfl, by kernel_rfl⟩
theorem is_37 : Is Tryd.prog 37 := ⟨_, Tryd.func37, by kernel_rfl, by kernel_rfl⟩
theorem is_38 : Is Tryd.prog 38 := ⟨_, Tryd.func38, by kernel_rfl, by kernel_rfl⟩
theorem is_39 : Is Tryd.prog 39 := ⟨_, Tryd.func39, by kernel_rfl, by kernel_rfl⟩
theorem is_40 : Is Tryd.prog 40 := ⟨_, Tryd.func40, by kernel_rfl, by kernel_rfl⟩
theorem is_41 : Is Tryd.prog 41 := ⟨_, Tryd.func41, by kernel_rfl, by kernel_rfl⟩
theorem is_42 : Is Tryd.prog 42 := ⟨_, Tryd.func42, by kernel_rfl, by kernel_rfl⟩
theorem is_43 : Is Tryd.prog 43 := ⟨_, Tryd.func43, by kernel_rfl, by kernel_rfl⟩
theorem is_44 : Is Tryd.prog 44 := ⟨_, Tryd.func44, by kernel_rfl, by kernel_rfl⟩
theorem is_45 : Is Tryd.prog 45 := ⟨_, Tryd.func45, by kernel_rfl, by kernel_rfl⟩
theorem is_46 : Is Tryd.prog 46 := ⟨_, Tryd.func46, by kernel_rfl, by kernel_rfl⟩
theorem is_47 : Is Tryd.prog 47 := ⟨_, Tryd.func47, by kernel_rfl, by kernel_rfl⟩
theorem is_48 : Is Tryd.prog 48 := ⟨_, Tryd.func48, by kernel_rfl, by kernel_rfl⟩
theorem is_49 : Is Tryd.prog 49 := ⟨_, Tryd.func49, by kernel_rfl, by kernel_rfl⟩
theorem is_50 : Is Tryd.prog 50 := ⟨_, Tryd.func50, by kernel_rfl, by kernel_rfl⟩
theorem is_51 : Is Tryd.prog 51 := ⟨_, Tryd.func51, by kernel_rfl, by kernel_rfl⟩
theorem is_52 : Is Tryd.prog 52 := ⟨_, Tryd.func52, by kernel_rfl, by kernel_rfl⟩
theorem is_53 : Is Tryd.prog 53 := ⟨_, Tryd.func53, by kernel_rfl, by kernel_rfl⟩
theorem is_54 : Is Tryd.prog 54 := ⟨_, Tryd.func54, by kernel_rfl, by kernel_rfl⟩
theorem is_55 : Is Tryd.prog 55 := ⟨_, Tryd.func55, by kernel_rfl, by kernel_rfl⟩
theorem is_57 : Is Tryd.prog 57 := ⟨_, Tryd.func57, by kernel_rfl, by kernel_rfl⟩
theorem is_58 : Is Tryd.prog 58 := ⟨_, Tryd.func58, by kernel_rfl, by kernel_rfl⟩
theorem is_59 : Is Tryd.prog 59 := ⟨_, Tryd.func59, by kernel_rfl, by kernel_rfl⟩
theorem is_60 : Is Tryd.prog 60 := ⟨_, Tryd.func60, by kernel_rfl, by kernel_rfl⟩
theorem is_61 : Is Tryd.prog 61 := ⟨_, Tryd.func61, by kernel_rfl, by kernel_rfl⟩
theorem is_62 : Is Tryd.prog 62 := ⟨_, Tryd.func62, by kernel_rfl, by kernel_rfl⟩
theorem is_63 : Is Tryd.prog 63 := ⟨_, Tryd.func63, by kernel_rfl, by kernel_rfl⟩
theorem is_64 : Is Tryd.prog 64 := ⟨_, Tryd.func64, by kernel_rfl, by kernel_rfl⟩
theorem is_65 : Is Tryd.prog 65 := ⟨_, Tryd.func65, by kernel_rfl, by kernel_rfl⟩
theorem is_66 : Is Tryd.prog 66 := ⟨_, Tryd.func66, by kernel_rfl, by kernel_rfl⟩
theorem is_67 : Is Tryd.prog 67 := ⟨_, Tryd.func67, by kernel_rfl, by kernel_rfl⟩
theorem is_69 : Is Tryd.prog 69 := ⟨_, Tryd.func69, by kernel_rfl, by kernel_rfl⟩
theorem is_70 : Is Tryd.prog 70 := ⟨_, Tryd.func70, by kernel_rfl, by kernel_rfl⟩
theorem is_71 : Is Tryd.prog 71 := ⟨_, Tryd.func71, by kernel_rfl, by kernel_rfl⟩
theorem is_72 : Is Tryd.prog 72 := ⟨_, Tryd.func72, by kernel_rfl, by kernel_rfl⟩
theorem is_73 : Is Tryd.prog 73 := ⟨_, Tryd.func73, by kernel_rfl, by kernel_rfl⟩
theorem is_74 : Is Tryd.prog 74 := ⟨_, Tryd.func74, by kernel_rfl, by kernel_rfl⟩
theorem is_75 : Is Tryd.prog 75 := ⟨_, Tryd.func75, by kernel_rfl, by kernel_rfl⟩
theorem is_76 : Is Tryd.prog 76 := ⟨_, Tryd.func76, by kernel_rfl, by kernel_rfl⟩
theorem is_78 : Is Tryd.prog 78 := ⟨_, Tryd.func78, by kernel_rfl, by kernel_rfl⟩
theorem is_80 : Is Tryd.prog 80 := ⟨_, Tryd.func80, by kernel_rfl, by kernel_rfl⟩
theorem is_81 : Is Tryd.prog 81 := ⟨_, Tryd.func81, by kernel_rfl, by kernel_rfl⟩
theorem is_82 : Is Tryd.prog 82 := ⟨_, Tryd.func82, by kernel_rfl, by kernel_rfl⟩
theorem is_83 : Is Tryd.prog 83 := ⟨_, Tryd.func83, by kernel_rfl, by kernel_rfl⟩
theorem is_84 : Is Tryd.prog 84 := ⟨_, Tryd.func84, by kernel_rfl, by kernel_rfl⟩
theorem is_85 : Is Tryd.prog 85 := ⟨_, Tryd.func85, by kernel_rfl, by kernel_rfl⟩
theorem is_86 : Is Tryd.prog 86 := ⟨_, Tryd.func86, by kernel_rfl, by kernel_rfl⟩
theorem is_87 : Is Tryd.prog 87 := ⟨_, Tryd.func87, by kernel_rfl, by kernel_rfl⟩
theorem is_88 : Is Tryd.prog 88 := ⟨_, Tryd.func88, by kernel_rfl, by kernel_rfl⟩
theorem is_90 : Is Tryd.prog 90 := ⟨_, Tryd.func90, by kernel_rfl, by kernel_rfl⟩
theorem is_91 : Is Tryd.prog 91 := ⟨_, Tryd.func91, by kernel_rfl, by kernel_rfl⟩
theorem is_92 : Is Tryd.prog 92 := ⟨_, Tryd.func92, by kernel_rfl, by kernel_rfl⟩
theorem is_93 : Is Tryd.prog 93 := ⟨_, Tryd.func93, by kernel_rfl, by kernel_rfl⟩
theorem is_94 : Is Tryd.prog 94 := ⟨_, Tryd.func94, by kernel_rfl, by kernel_rfl⟩
theorem is_95 : Is Tryd.prog 95 := ⟨_, Tryd.func95, by kernel_rfl, by kernel_rfl⟩
theorem is_96 : Is Tryd.prog 96 := ⟨_, Tryd.func96, by kernel_rfl, by kernel_rfl⟩
theorem is_97 : Is Tryd.prog 97 := ⟨_, Tryd.func97, by kernel_rfl, by kernel_rfl⟩
theorem is_98 : Is Tryd.prog 98 := ⟨_, Tryd.func98, by kernel_rfl, by kernel_rfl⟩
theorem is_99 : Is Tryd.prog 99 := ⟨_, Tryd.func99, by kernel_rfl, by kernel_rfl⟩
theorem is_129 : Is Tryd.prog 129 := ⟨_, Tryd.func129, by kernel_rfl, by kernel_rfl⟩
end Go.Proofs.YtcglmncmnlkpmaaDoor
