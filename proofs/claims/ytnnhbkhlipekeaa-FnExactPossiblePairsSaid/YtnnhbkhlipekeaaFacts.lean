/- The facts on this translation's types and functions. -/
import Derived.Test.YtnnhbkhlipekeaaRows
import Derived.Test.YtnnhbkhlipekeaaStr
import Derived.Test.YtnnhbkhlipekeaaHds
namespace Go.Proofs.Ytnnhbkhlipekeaa
theorem hmix : Try.prog.follows .mixedOrders = true := by kernel_rfl
theorem he_int : ElT Try.prog 3 (.int .i64 0) 8 := .mk_ (by kernel_rfl)
theorem he_bool : ElT Try.prog 4 (.bool false) 1 := .mk_ (by kernel_rfl)
theorem hu_int : Try.prog.underlying 3 = some (.int .i64) := Try.underlying3
theorem hu_bool : Try.prog.underlying 4 = some .bool := Try.underlying4
theorem sc_int : Sc Try.prog 3 := .int hu_int
theorem sc_bool : Sc Try.prog 4 := .bool hu_bool
theorem hu_I : Try.prog.underlying 23 = some (.slice 3) := Try.underlying23
theorem ht_I : SlT Try.prog 23 3 := .mk_ hu_I he_int
theorem he_I : ElT Try.prog 23 (.slice none 0 0) 24 := .mk_ (by kernel_rfl)
theorem sc_I : Sc Try.prog 23 := .slice hu_I
theorem hu_M : Try.prog.underlying 22 = some (.slice 23) := Try.underlying22
theorem ht_M : SlT Try.prog 22 23 := .mk_ hu_M he_I
theorem he_M : ElT Try.prog 22 (.slice none 0 0) 24 := .mk_ (by kernel_rfl)
theorem sc_M : Sc Try.prog 22 := .slice hu_M
theorem hu_B : Try.prog.underlying 73 = some (.slice 4) := Try.underlying73
theorem ht_B : SlT Try.prog 73 4 := .mk_ hu_B he_bool
theorem he_B : ElT Try.prog 73 (.slice none 0 0) 24 := .mk_ (by kernel_rfl)
theorem sc_B : Sc Try.prog 73 := .slice hu_B
theorem sT_55 : StT Try.prog 55 [.int .i64 0, .slice none 0 0] := ⟨by kernel_rfl, by kernel_rfl, by kernel_rfl⟩
theorem scf_55_0 : ∀ f, (Try.prog.fieldsOf 55)[0]? = some f → Sc Try.prog f.type := by
  intro f hf
  have h : ((Try.prog.fieldsOf 55)[0]?).map Field.type = some 3 := by kernel_rfl
  rw [hf] at h
  rw [Option.some.inj h]
  exact sc_int
theorem scf_55_1 : ∀ f, (Try.prog.fieldsOf 55)[1]? = some f → Sc Try.prog f.type := by
  intro f hf
  have h : ((Try.prog.fieldsOf 55)[1]?).map Field.type = some 23 := by kernel_rfl
  rw [hf] at h
  rw [Option.some.inj h]
  exact sc_I
theorem he_1 : ElT Try.prog 1 .nilFunc 8 := .mk_ (by kernel_rfl)
theorem sc_1 : Sc Try.prog 1 := .func Try.underlying1
theorem he_63 : ElT Try.prog 63 .nilFunc 8 := .mk_ (by kernel_rfl)
theorem sc_63 : Sc Try.prog 63 := .func Try.underlying63
theorem he_76 : ElT Try.prog 76 .nilFunc 8 := .mk_ (by kernel_rfl)
theorem sc_76 : Sc Try.prog 76 := .func Try.underlying76
theorem is_3 : Is Try.prog 3 := ⟨_, Try.func3, by kernel_rfl, by kernel_rfl⟩
theorem is_4 : Is Try.prog 4 := ⟨_, Try.func4, by kernel_rfl, by kernel_rfl⟩
theorem is_5 : Is Try.prog 5 := ⟨_, Try.func5, by kernel_rfl, by kernel_rfl⟩
theorem is_6 : Is Try.prog 6 := ⟨_, Try.func6, by kernel_rfl, by kernel_rfl⟩
theorem is_7 : Is Try.prog 7 := ⟨_, Try.func7, by kernel_rfl, by kernel_rfl⟩
theorem is_8 : Is Try.prog 8 := ⟨_, Try.func8, by kernel_rfl, by kernel_rfl⟩
theorem is_9 : Is Try.prog 9 := ⟨_, Try.func9, by kernel_rfl, by kernel_rfl⟩
theorem is_10 : Is Try.prog 10 := ⟨_, Try.func10, by kernel_rfl, by kernel_rfl⟩
theorem is_11 : Is Try.prog 11 := ⟨_, Try.func11, by kernel_rfl, by kernel_rfl⟩
theorem is_12 : Is Try.prog 12 := ⟨_, Try.func12, by kernel_rfl, by kernel_rfl⟩
theorem is_13 : Is Try.prog 13 := ⟨_, Try.func13, by kernel_rfl, by kernel_rfl⟩
theorem is_14 : Is Try.prog 14 := ⟨_, Try.func14, by kernel_rfl, by kernel_rfl⟩
theorem is_15 : Is Try.prog 15 := ⟨_, Try.func15, by kernel_rfl, by kernel_rfl⟩
theorem is_16 : Is Try.prog 16 := ⟨_, Try.func16, by kernel_rfl, by kernel_rfl⟩
theorem is_17 : Is Try.prog 17 := ⟨_, Try.func17, by kernel_rfl, by kernel_rfl⟩
theorem is_18 : Is Try.prog 18 := ⟨_, Try.func18, by kernel_rfl, by kernel_rfl⟩
theorem is_19 : Is Try.prog 19 := ⟨_, Try.func19, by kernel_rfl, by kernel_rfl⟩
theorem is_20 : Is Try.prog 20 := ⟨_, Try.func20, by kernel_rfl, by kernel_rfl⟩
theorem is_21 : Is Try.prog 21 := ⟨_, Try.func21, by kernel_rfl, by kernel_rfl⟩
theorem is_22 : Is Try.prog 22 := ⟨_, Try.func22, by kernel_rfl, by kernel_rfl⟩
theorem is_23 : Is Try.prog 23 := ⟨_, Try.func23, by kernel_rfl, by kernel_rfl⟩
theorem is_24 : Is Try.prog 24 := ⟨_, Try.func24, by kernel_rfl, by kernel_rfl⟩
theorem is_25 : Is Try.prog 25 := ⟨_, Try.func25, by kernel_rfl, by kernel_rfl⟩
theorem is_26 : Is Try.prog 26 := ⟨_, Try.func26, by kernel_rfl, by kernel_rfl⟩
theorem is_27 : Is Try.prog 27 := ⟨_, Try.func27, by kernel_rfl, by kernel_rfl⟩
theorem is_28 : Is Try.prog 28 := ⟨_, Try.func28, by kernel_rfl, by kernel_rfl⟩
theorem is_29 : Is Try.prog 29 := ⟨_, Try.func29, by kernel_rfl, by kernel_rfl⟩
theorem is_30 : Is Try.prog 30 := ⟨_, Try.func30, by kernel_rfl, by kernel_rfl⟩
theorem is_31 : Is Try.prog 31 := ⟨_, Try.func31, by kernel_rfl, by kernel_rfl⟩
theorem is_32 : Is Try.prog 32 := ⟨_, Try.func32, by kernel_rfl, by kernel_rfl⟩
theorem is_33 : Is Try.prog 33 := ⟨_, Try.func33, by kernel_rfl, by kernel_rfl⟩
theorem is_34 : Is Try.prog 34 := ⟨_, Try.func34, by kernel_rfl, by kernel_rfl⟩
theorem is_35 : Is Try.prog 35 := ⟨_, Try.func35, by kernel_rfl, by kernel_rfl⟩
theorem is_36 : Is Try.prog 36 := ⟨_, Try.func36, by kernel_rfl, by kernel_rfl⟩
theorem is_37 : Is Try.prog 37 := ⟨_, Try.func37, by kernel_rfl, by kernel_rfl⟩
theorem is_38 : Is Try.prog 38 := ⟨_, Try.func38, by kernel_rfl, by kernel_rfl⟩
theorem is_39 : Is Try.prog 39 := ⟨_, Try.func39, by kernel_rfl, by kernel_rfl⟩
theorem is_40 : Is Try.prog 40 := ⟨_, Try.func40, by kernel_rfl, by kernel_rfl⟩
theorem is_41 : Is Try.prog 41 := ⟨_, Try.func41, by kernel_rfl, by kernel_rfl⟩
theorem is_42 : Is Try.prog 42 := ⟨_, Try.func42, by kernel_rfl, by kernel_rfl⟩
theorem is_43 : Is Try.prog 43 := ⟨_, Try.func43, by kernel_rfl, by kernel_rfl⟩
theorem is_44 : Is Try.prog 44 := ⟨_, Try.func44, by kernel_rfl, by kernel_rfl⟩
theorem is_45 : Is Try.prog 45 := ⟨_, Try.func45, by kernel_rfl, by kernel_rfl⟩
theorem is_46 : Is Try.prog 46 := ⟨_, Try.func46, by kernel_rfl, by kernel_rfl⟩
theorem is_47 : Is Try.prog 47 := ⟨_, Try.func47, by kernel_rfl, by kernel_rfl⟩
theorem is_48 : Is Try.prog 48 := ⟨_, Try.func48, by kernel_rfl, by kernel_rfl⟩
theorem is_49 : Is Try.prog 49 := ⟨_, Try.func49, by kernel_rfl, by kernel_rfl⟩
theorem is_50 : Is Try.prog 50 := ⟨_, Try.func50, by kernel_rfl, by kernel_rfl⟩
theorem is_51 : Is Try.prog 51 := ⟨_, Try.func51, by kernel_rfl, by kernel_rfl⟩
theorem is_52 : Is Try.prog 52 := ⟨_, Try.func52, by kernel_rfl, by kernel_rfl⟩
theorem is_53 : Is Try.prog 53 := ⟨_, Try.func53, by kernel_rfl, by kernel_rfl⟩
theorem is_54 : Is Try.prog 54 := ⟨_, Try.func54, by kernel_rfl, by kernel_rfl⟩
theorem is_55 : Is Try.prog 55 := ⟨_, Try.func55, by kernel_rfl, by kernel_rfl⟩
theorem is_56 : Is Try.prog 56 := ⟨_, Try.func56, by kernel_rfl, by kernel_rfl⟩
theorem is_57 : Is Try.prog 57 := ⟨_, Try.func57, by kernel_rfl, by kernel_rfl⟩
theorem is_58 : Is Try.prog 58 := ⟨_, Try.func58, by kernel_rfl, by kernel_rfl⟩
theorem is_59 : Is Try.prog 59 := ⟨_, Try.func59, by kernel_rfl, by kernel_rfl⟩
theorem is_60 : Is Try.prog 60 := ⟨_, Try.func60, by kernel_rfl, by kernel_rfl⟩
theorem is_61 : Is Try.prog 61 := ⟨_, Try.func61, by kernel_rfl, by kernel_rfl⟩
theorem is_62 : Is Try.prog 62 := ⟨_, Try.func62, by kernel_rfl, by kernel_rfl⟩
theorem is_63 : Is Try.prog 63 := ⟨_, Try.func63, by kernel_rfl, by kernel_rfl⟩
theorem is_64 : Is Try.prog 64 := ⟨_, Try.func64, by kernel_rfl, by kernel_rfl⟩
theorem is_65 : Is Try.prog 65 := ⟨_, Try.func65, by kernel_rfl, by kernel_rfl⟩
theorem is_66 : Is Try.prog 66 := ⟨_, Try.func66, by kernel_rfl, by kernel_rfl⟩
theorem is_67 : Is Try.prog 67 := ⟨_, Try.func67, by kernel_rfl, by kernel_rfl⟩
theorem is_68 : Is Try.prog 68 := ⟨_, Try.func68, by kernel_rfl, by kernel_rfl⟩
theorem is_69 : Is Try.prog 69 := ⟨_, Try.func69, by kernel_rfl, by kernel_rfl⟩
theorem is_70 : Is Try.prog 70 := ⟨_, Try.func70, by kernel_rfl, by kernel_rfl⟩
theorem is_71 : Is Try.prog 71 := ⟨_, Try.func71, by kernel_rfl, by kernel_rfl⟩
theorem is_72 : Is Try.prog 72 := ⟨_, Try.func72, by kernel_rfl, by kernel_rfl⟩
theorem is_73 : Is Try.prog 73 := ⟨_, Try.func73, by kernel_rfl, by kernel_rfl⟩
theorem is_74 : Is Try.prog 74 := ⟨_, Try.func74, by kernel_rfl, by kernel_rfl⟩
theorem is_75 : Is Try.prog 75 := ⟨_, Try.func75, by kernel_rfl, by kernel_rfl⟩
theorem is_76 : Is Try.prog 76 := ⟨_, Try.func76, by kernel_rfl, by kernel_rfl⟩
theorem is_77 : Is Try.prog 77 := ⟨_, Try.func77, by kernel_rfl, by kernel_rfl⟩
theorem is_78 : Is Try.prog 78 := ⟨_, Try.func78, by kernel_rfl, by kernel_rfl⟩
theorem is_79 : Is Try.prog 79 := ⟨_, Try.func79, by kernel_rfl, by kernel_rfl⟩
theorem is_80 : Is Try.prog 80 := ⟨_, Try.func80, by kernel_rfl, by kernel_rfl⟩
theorem is_81 : Is Try.prog 81 := ⟨_, Try.func81, by kernel_rfl, by kernel_rfl⟩
theorem is_82 : Is Try.prog 82 := ⟨_, Try.func82, by kernel_rfl, by kernel_rfl⟩
theorem is_83 : Is Try.prog 83 := ⟨_, Try.func83, by kernel_rfl, by kernel_rfl⟩
theorem is_84 : Is Try.prog 84 := ⟨_, Try.func84, by kernel_rfl, by kernel_rfl⟩
theorem is_85 : Is Try.prog 85 := ⟨_, Try.func85, by kernel_rfl, by kernel_rfl⟩
theorem is_86 : Is Try.prog 86 := ⟨_, Try.func86, by kernel_rfl, by kernel_rfl⟩
theorem is_87 : Is Try.prog 87 := ⟨_, Try.func87, by kernel_rfl, by kernel_rfl⟩
theorem is_88 : Is Try.prog 88 := ⟨_, Try.func88, by kernel_rfl, by kernel_rfl⟩
theorem is_89 : Is Try.prog 89 := ⟨_, Try.func89, by kernel_rfl, by kernel_rfl⟩
theorem is_90 : Is Try.prog 90 := ⟨_, Try.func90, by kernel_rfl, by kernel_rfl⟩
theorem is_91 : Is Try.prog 91 := ⟨_, Try.func91, by kernel_rfl, by kernel_rfl⟩
theorem is_92 : Is Try.prog 92 := ⟨_, Try.func92, by kernel_rfl, by kernel_rfl⟩
theorem is_93 : Is Try.prog 93 := ⟨_, Try.func93, by kernel_rfl, by kernel_rfl⟩
theorem is_94 : Is Try.prog 94 := ⟨_, Try.func94, by kernel_rfl, by kernel_rfl⟩
theorem is_95 : Is Try.prog 95 := ⟨_, Try.func95, by kernel_rfl, by kernel_rfl⟩
theorem is_96 : Is Try.prog 96 := ⟨_, Try.func96, by kernel_rfl, by kernel_rfl⟩
theorem is_97 : Is Try.prog 97 := ⟨_, Try.func97, by kernel_rfl, by kernel_rfl⟩
theorem is_98 : Is Try.prog 98 := ⟨_, Try.func98, by kernel_rfl, by kernel_rfl⟩
theorem is_99 : Is Try.prog 99 := ⟨_, Try.func99, by kernel_rfl, by kernel_rfl⟩
theorem is_100 : Is Try.prog 100 := ⟨_, Try.func100, by kernel_rfl, by kernel_rfl⟩
theorem is_101 : Is Try.prog 101 := ⟨_, Try.func101, by kernel_rfl, by kernel_rfl⟩
theorem is_102 : Is Try.prog 102 := ⟨_, Try.func102, by kernel_rfl, by kernel_rfl⟩
theorem is_103 : Is Try.prog 103 := ⟨_, Try.func103, by kernel_rfl, by kernel_rfl⟩
theorem is_104 : Is Try.prog 104 := ⟨_, Try.func104, by kernel_rfl, by kernel_rfl⟩
theorem is_105 : Is Try.prog 105 := ⟨_, Try.func105, by kernel_rfl, by kernel_rfl⟩
theorem is_106 : Is Try.prog 106 := ⟨_, Try.func106, by kernel_rfl, by kernel_rfl⟩
theorem is_107 : Is Try.prog 107 := ⟨_, Try.func107, by kernel_rfl, by kernel_rfl⟩
theorem is_108 : Is Try.prog 108 := ⟨_, Try.func108, by kernel_rfl, by kernel_rfl⟩
theorem is_109 : Is Try.prog 109 := ⟨_, Try.func109, by kernel_rfl, by kernel_rfl⟩
theorem is_110 : Is Try.prog 110 := ⟨_, Try.func110, by kernel_rfl, by kernel_rfl⟩
end Go.Proofs.Ytnnhbkhlipekeaa
