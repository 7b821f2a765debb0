/-
  The contract of foreign of package henkanref42. Conditions: none. (Printed by gen/foreign2.py.)
-/
import Derived.Test.YtkllfnaofapfnaaDoorReqRef
import Derived.Test.YtkllfnaofapfnaaDoorCutOps
namespace Go.Proofs.YtkllfnaofapfnaaDoor.Prot
open Go.RowKit Wd Utf Cod
/-- is a field set that the kind does not have -/
def forR (r : Req) : Bool := ((((((!hasS r.kind && r.ses != 0) || (r.kind != 3 && (r.kk != 0 || (r.kc : Int) != 0))) || (r.kind != 4 && (!r.bef.toList.isEmpty || !r.sel.toList.isEmpty))) || (r.kind != 5 && r.on)) || (r.kind != 6 && !r.sur.toList.isEmpty)) || (r.kind != 7 && decide (0 < r.n7))) || (r.kind != 8 && decide (0 < r.n8))
theorem frame_85_1_12 {a : Act} {X : Act → Prop} {v1 v12 : Value} (hs : a.tmps.size = 85) (hd : a.defers = []) (h1 : a.tmps[1]? = some v1) (h12 : a.tmps[12]? = some v12) (h : ∀ u0 u2 u3 u4 u5 u6 u7 u8 u9 u10 u11 u13 u14 u15 u16 u17 u18 u19 u20 u21 u22 u23 u24 u25 u26 u27 u28 u29 u30 u31 u32 u33 u34 u35 u36 u37 u38 u39 u40 u41 u42 u43 u44 u45 u46 u47 u48 u49 u50 u51 u52 u53 u54 u55 u56 u57 u58 u59 u60 u61 u62 u63 u64 u65 u66 u67 u68 u69 u70 u71 u72 u73 u74 u75 u76 u77 u78 u79 u80 u81 u82 u83 u84 : Value, X ⟨#[u0, v1, u2, u3, u4, u5, u6, u7, u8, u9, u10, u11, v12, u13, u14, u15, u16, u17, u18, u19, u20, u21, u22, u23, u24, u25, u26, u27, u28, u29, u30, u31, u32, u33, u34, u35, u36, u37, u38, u39, u40, u41, u42, u43, u44, u45, u46, u47, u48, u49, u50, u51, u52, u53, u54, u55, u56, u57, u58, u59, u60, u61, u62, u63, u64, u65, u66, u67, u68, u69, u70, u71, u72, u73, u74, u75, u76, u77, u78, u79, u80, u81, u82, u83, u84], []⟩) : X a := by
  obtain ⟨⟨l⟩, d⟩ := a
  simp only at hd
  subst hd
  have hs0 : l.length = 85 := hs
  clear hs
  obtain ⟨u0, l, rfl, hs1⟩ := uncons 84 hs0
  clear hs0
  obtain ⟨u1, l, rfl, hs2⟩ := uncons 83 hs1
  clear hs1
  obtain ⟨u2, l, rfl, hs3⟩ := uncons 82 hs2
  clear hs2
  obtain ⟨u3, l, rfl, hs4⟩ := uncons 81 hs3
  clear hs3
  obtain ⟨u4, l, rfl, hs5⟩ := uncons 80 hs4
  clear hs4
  obtain ⟨u5, l, rfl, hs6⟩ := uncons 79 hs5
  clear hs5
  obtain ⟨u6, l, rfl, hs7⟩ := uncons 78 hs6
  clear hs6
  obtain ⟨u7, l, rfl, hs8⟩ := uncons 77 hs7
  clear hs7
  obtain ⟨u8, l, rfl, hs9⟩ := uncons 76 hs8
  clear hs8
  obtain ⟨u9, l, rfl, hs10⟩ := uncons 75 hs9
  clear hs9
  obtain ⟨u10, l, rfl, hs11⟩ := uncons 74 hs10
  clear hs10
  obtain ⟨u11, l, rfl, hs12⟩ := uncons 73 hs11
  clear hs11
  obtain ⟨u12, l, rfl, hs13⟩ := uncons 72 hs12
  clear hs12
  obtain ⟨u13, l, rfl, hs14⟩ := uncons 71 hs13
  clear hs13
  obtain ⟨u14, l, rfl, hs15⟩ := uncons 70 hs14
  clear hs14
  obtain ⟨u15, l, rfl, hs16⟩ := uncons 69 hs15
  clear hs15
  obtain ⟨u16, l, rfl, hs17⟩ := uncons 68 hs16
  clear hs16
  obtain ⟨u17, l, rfl, hs18⟩ := uncons 67 hs17
  clear hs17
  obtain ⟨u18, l, rfl, hs19⟩ := uncons 66 hs18
  clear hs18
  obtain ⟨u19, l, rfl, hs20⟩ := uncons 65 hs19
  clear hs19
  obtain ⟨u20, l, rfl, hs21⟩ := uncons 64 hs20
  clear hs20
  obtain ⟨u21, l, rfl, hs22⟩ := uncons 63 hs21
  clear hs21
  obtain ⟨u22, l, rfl, hs23⟩ := uncons 62 hs22
  clear hs22
  obtain ⟨u23, l, rfl, hs24⟩ := uncons 61 hs23
  clear hs23
  obtain ⟨u24, l, rfl, hs25⟩ := uncons 60 hs24
  clear hs24
  obtain ⟨u25, l, rfl, hs26⟩ := uncons 59 hs25
  clear hs25
  obtain ⟨u26, l, rfl, hs27⟩ := uncons 58 hs26
  clear hs26
  obtain ⟨u27, l, rfl, hs28⟩ := uncons 57 hs27
  clear hs27
  obtain ⟨u28, l, rfl, hs29⟩ := uncons 56 hs28
  clear hs28
  obtain ⟨u29, l, rfl, hs30⟩ := uncons 55 hs29
  clear hs29
  obtain ⟨u30, l, rfl, hs31⟩ := uncons 54 hs30
  clear hs30
  obtain ⟨u31, l, rfl, hs32⟩ := uncons 53 hs31
  clear hs31
  obtain ⟨u32, l, rfl, hs33⟩ := uncons 52 hs32
  clear hs32
  obtain ⟨u33, l, rfl, hs34⟩ := uncons 51 hs33
  clear hs33
  obtain ⟨u34, l, rfl, hs35⟩ := uncons 50 hs34
  clear hs34
  obtain ⟨u35, l, rfl, hs36⟩ := uncons 49 hs35
  clear hs35
  obtain ⟨u36, l, rfl, hs37⟩ := uncons 48 hs36
  clear hs36
  obtain ⟨u37, l, rfl, hs38⟩ := uncons 47 hs37
  clear hs37
  obtain ⟨u38, l, rfl, hs39⟩ := uncons 46 hs38
  clear hs38
  obtain ⟨u39, l, rfl, hs40⟩ := uncons 45 hs39
  clear hs39
  obtain ⟨u40, l, rfl, hs41⟩ := uncons 44 hs40
  clear hs40
  obtain ⟨u41, l, rfl, hs42⟩ := uncons 43 hs41
  clear hs41
  obtain ⟨u42, l, rfl, hs43⟩ := uncons 42 hs42
  clear hs42
  obtain ⟨u43, l, rfl, hs44⟩ := uncons 41 hs43
  clear hs43
  obtain ⟨u44, l, rfl, hs45⟩ := uncons 40 hs44
  clear hs44
  obtain ⟨u45, l, rfl, hs46⟩ := uncons 39 hs45
  clear hs45
  obtain ⟨u46, l, rfl, hs47⟩ := uncons 38 hs46
  clear hs46
  obtain ⟨u47, l, rfl, hs48⟩ := uncons 37 hs47
  clear hs47
  obtain ⟨u48, l, rfl, hs49⟩ := uncons 36 hs48
  clear hs48
  obtain ⟨u49, l, rfl, hs50⟩ := uncons 35 hs49
  clear hs49
  obtain ⟨u50, l, rfl, hs51⟩ := uncons 34 hs50
  clear hs50
  obtain ⟨u51, l, rfl, hs52⟩ := uncons 33 hs51
  clear hs51
  obtain ⟨u52, l, rfl, hs53⟩ := uncons 32 hs52
  clear hs52
  obtain ⟨u53, l, rfl, hs54⟩ := uncons 31 hs53
  clear hs53
  obtain ⟨u54, l, rfl, hs55⟩ := uncons 30 hs54
  clear hs54
  obtain ⟨u55, l, rfl, hs56⟩ := uncons 29 hs55
  clear hs55
  obtain ⟨u56, l, rfl, hs57⟩ := uncons 28 hs56
  clear hs56
  obtain ⟨u57, l, rfl, hs58⟩ := uncons 27 hs57
  clear hs57
  obtain ⟨u58, l, rfl, hs59⟩ := uncons 26 hs58
  clear hs58
  obtain ⟨u59, l, rfl, hs60⟩ := uncons 25 hs59
  clear hs59
  obtain ⟨u60, l, rfl, hs61⟩ := uncons 24 hs60
  clear hs60
  obtain ⟨u61, l, rfl, hs62⟩ := uncons 23 hs61
  clear hs61
  obtain ⟨u62, l, rfl, hs63⟩ := uncons 22 hs62
  clear hs62
  obtain ⟨u63, l, rfl, hs64⟩ := uncons 21 hs63
  clear hs63
  obtain ⟨u64, l, rfl, hs65⟩ := uncons 20 hs64
  clear hs64
  obtain ⟨u65, l, rfl, hs66⟩ := uncons 19 hs65
  clear hs65
  obtain ⟨u66, l, rfl, hs67⟩ := uncons 18 hs66
  clear hs66
  obtain ⟨u67, l, rfl, hs68⟩ := uncons 17 hs67
  clear hs67
  obtain ⟨u68, l, rfl, hs69⟩ := uncons 16 hs68
  clear hs68
  obtain ⟨u69, l, rfl, hs70⟩ := uncons 15 hs69
  clear hs69
  obtain ⟨u70, l, rfl, hs71⟩ := uncons 14 hs70
  clear hs70
  obtain ⟨u71, l, rfl, hs72⟩ := uncons 13 hs71
  clear hs71
  obtain ⟨u72, l, rfl, hs73⟩ := uncons 12 hs72
  clear hs72
  obtain ⟨u73, l, rfl, hs74⟩ := uncons 11 hs73
  clear hs73
  obtain ⟨u74, l, rfl, hs75⟩ := uncons 10 hs74
  clear hs74
  obtain ⟨u75, l, rfl, hs76⟩ := uncons 9 hs75
  clear hs75
  obtain ⟨u76, l, rfl, hs77⟩ := uncons 8 hs76
  clear hs76
  obtain ⟨u77, l, rfl, hs78⟩ := uncons 7 hs77
  clear hs77
  obtain ⟨u78, l, rfl, hs79⟩ := uncons 6 hs78
  clear hs78
  obtain ⟨u79, l, rfl, hs80⟩ := uncons 5 hs79
  clear hs79
  obtain ⟨u80, l, rfl, hs81⟩ := uncons 4 hs80
  clear hs80
  obtain ⟨u81, l, rfl, hs82⟩ := uncons 3 hs81
  clear hs81
  obtain ⟨u82, l, rfl, hs83⟩ := uncons 2 hs82
  clear hs82
  obtain ⟨u83, l, rfl, hs84⟩ := uncons 1 hs83
  clear hs83
  obtain ⟨u84, l, rfl, hs85⟩ := uncons 0 hs84
  clear hs84
  obtain rfl := List.eq_nil_of_length_eq_zero hs85
  have h1 : some u1 = some v1 := h1
  injection h1 with h1
  subst h1
  have h12 : some u12 = some v12 := h12
  injection h12 with h12
  subst h12
  exact h u0 u2 u3 u4 u5 u6 u7 u8 u9 u10 u11 u13 u14 u15 u16 u17 u18 u19 u20 u21 u22 u23 u24 u25 u26 u27 u28 u29 u30 u31 u32 u33 u34 u35 u36 u37 u38 u39 u40 u41 u42 u43 u44 u45 u46 u47 u48 u49 u50 u51 u52 u53 u54 u55 u56 u57 u58 u59 u60 u61 u62 u63 u64 u65 u66 u67 u68 u69 u70 u71 u72 u73 u74 u75 u76 u77 u78 u79 u80 u81 u82 u83 u84
theorem frame_85_1_29 {a : Act} {X : Act → Prop} {v1 v29 : Value} (hs : a.tmps.size = 85) (hd : a.defers = []) (h1 : a.tmps[1]? = some v1) (h29 : a.tmps[29]? = some v29) (h : ∀ u0 u2 u3 u4 u5 u6 u7 u8 u9 u10 u11 u12 u13 u14 u15 u16 u17 u18 u19 u20 u21 u22 u23 u24 u25 u26 u27 u28 u30 u31 u32 u33 u34 u35 u36 u37 u38 u39 u40 u41 u42 u43 u44 u45 u46 u47 u48 u49 u50 u51 u52 u53 u54 u55 u56 u57 u58 u59 u60 u61 u62 u63 u64 u65 u66 u67 u68 u69 u70 u71 u72 u73 u74 u75 u76 u77 u78 u79 u80 u81 u82 u83 u84 : Value, X ⟨#[u0, v1, u2, u3, u4, u5, u6, u7, u8, u9, u10, u11, u12, u13, u14, u15, u16, u17, u18, u19, u20, u21, u22, u23, u24, u25, u26, u27, u28, v29, u30, u31, u32, u33, u34, u35, u36, u37, u38, u39, u40, u41, u42, u43, u44, u45, u46, u47, u48, u49, u50, u51, u52, u53, u54, u55, u56, u57, u58, u59, u60, u61, u62, u63, u64, u65, u66, u67, u68, u69, u70, u71, u72, u73, u74, u75, u76, u77, u78, u79, u80, u81, u82, u83, u84], []⟩) : X a := by
  obtain ⟨⟨l⟩, d⟩ := a
  simp only at hd
  subst hd
  have hs0 : l.length = 85 := hs
  clear hs
  obtain ⟨u0, l, rfl, hs1⟩ := uncons 84 hs0
  clear hs0
  obtain ⟨u1, l, rfl, hs2⟩ := uncons 83 hs1
  clear hs1
  obtain ⟨u2, l, rfl, hs3⟩ := uncons 82 hs2
  clear hs2
  obtain ⟨u3, l, rfl, hs4⟩ := uncons 81 hs3
  clear hs3
  obtain ⟨u4, l, rfl, hs5⟩ := uncons 80 hs4
  clear hs4
  obtain ⟨u5, l, rfl, hs6⟩ := uncons 79 hs5
  clear hs5
  obtain ⟨u6, l, rfl, hs7⟩ := uncons 78 hs6
  clear hs6
  obtain ⟨u7, l, rfl, hs8⟩ := uncons 77 hs7
  clear hs7
  obtain ⟨u8, l, rfl, hs9⟩ := uncons 76 hs8
  clear hs8
  obtain ⟨u9, l, rfl, hs10⟩ := uncons 75 hs9
  clear hs9
  obtain ⟨u10, l, rfl, hs11⟩ := uncons 74 hs10
  clear hs10
  obtain ⟨u11, l, rfl, hs12⟩ := uncons 73 hs11
  clear hs11
  obtain ⟨u12, l, rfl, hs13⟩ := uncons 72 hs12
  clear hs12
  obtain ⟨u13, l, rfl, hs14⟩ := uncons 71 hs13
  clear hs13
  obtain ⟨u14, l, rfl, hs15⟩ := uncons 70 hs14
  clear hs14
  obtain ⟨u15, l, rfl, hs16⟩ := uncons 69 hs15
  clear hs15
  obtain ⟨u16, l, rfl, hs17⟩ := uncons 68 hs16
  clear hs16
  obtain ⟨u17, l, rfl, hs18⟩ := uncons 67 hs17
  clear hs17
  obtain ⟨u18, l, rfl, hs19⟩ := uncons 66 hs18
  clear hs18
  obtain ⟨u19, l, rfl, hs20⟩ := uncons 65 hs19
  clear hs19
  obtain ⟨u20, l, rfl, hs21⟩ := uncons 64 hs20
  clear hs20
  obtain ⟨u21, l, rfl, hs22⟩ := uncons 63 hs21
  clear hs21
  obtain ⟨u22, l, rfl, hs23⟩ := uncons 62 hs22
  clear hs22
  obtain ⟨u23, l, rfl, hs24⟩ := uncons 61 hs23
  clear hs23
  obtain ⟨u24, l, rfl, hs25⟩ := uncons 60 hs24
  clear hs24
  obtain ⟨u25, l, rfl, hs26⟩ := uncons 59 hs25
  clear hs25
  obtain ⟨u26, l, rfl, hs27⟩ := uncons 58 hs26
  clear hs26
  obtain ⟨u27, l, rfl, hs28⟩ := uncons 57 hs27
  clear hs27
  obtain ⟨u28, l, rfl, hs29⟩ := uncons 56 hs28
  clear hs28
  obtain ⟨u29, l, rfl, hs30⟩ := uncons 55 hs29
  clear hs29
  obtain ⟨u30, l, rfl, hs31⟩ := uncons 54 hs30
  clear hs30
  obtain ⟨u31, l, rfl, hs32⟩ := uncons 53 hs31
  clear hs31
  obtain ⟨u32, l, rfl, hs33⟩ := uncons 52 hs32
  clear hs32
  obtain ⟨u33, l, rfl, hs34⟩ := uncons 51 hs33
  clear hs33
  obtain ⟨u34, l, rfl, hs35⟩ := uncons 50 hs34
  clear hs34
  obtain ⟨u35, l, rfl, hs36⟩ := uncons 49 hs35
  clear hs35
  obtain ⟨u36, l, rfl, hs37⟩ := uncons 48 hs36
  clear hs36
  obtain ⟨u37, l, rfl, hs38⟩ := uncons 47 hs37
  clear hs37
  obtain ⟨u38, l, rfl, hs39⟩ := uncons 46 hs38
  clear hs38
  obtain ⟨u39, l, rfl, hs40⟩ := uncons 45 hs39
  clear hs39
  obtain ⟨u40, l, rfl, hs41⟩ := uncons 44 hs40
  clear hs40
  obtain ⟨u41, l, rfl, hs42⟩ := uncons 43 hs41
  clear hs41
  obtain ⟨u42, l, rfl, hs43⟩ := uncons 42 hs42
  clear hs42
  obtain ⟨u43, l, rfl, hs44⟩ := uncons 41 hs43
  clear hs43
  obtain ⟨u44, l, rfl, hs45⟩ := uncons 40 hs44
  clear hs44
  obtain ⟨u45, l, rfl, hs46⟩ := uncons 39 hs45
  clear hs45
  obtain ⟨u46, l, rfl, hs47⟩ := uncons 38 hs46
  clear hs46
  obtain ⟨u47, l, rfl, hs48⟩ := uncons 37 hs47
  clear hs47
  obtain ⟨u48, l, rfl, hs49⟩ := uncons 36 hs48
  clear hs48
  obtain ⟨u49, l, rfl, hs50⟩ := uncons 35 hs49
  clear hs49
  obtain ⟨u50, l, rfl, hs51⟩ := uncons 34 hs50
  clear hs50
  obtain ⟨u51, l, rfl, hs52⟩ := uncons 33 hs51
  clear hs51
  obtain ⟨u52, l, rfl, hs53⟩ := uncons 32 hs52
  clear hs52
  obtain ⟨u53, l, rfl, hs54⟩ := uncons 31 hs53
  clear hs53
  obtain ⟨u54, l, rfl, hs55⟩ := uncons 30 hs54
  clear hs54
  obtain ⟨u55, l, rfl, hs56⟩ := uncons 29 hs55
  clear hs55
  obtain ⟨u56, l, rfl, hs57⟩ := uncons 28 hs56
  clear hs56
  obtain ⟨u57, l, rfl, hs58⟩ := uncons 27 hs57
  clear hs57
  obtain ⟨u58, l, rfl, hs59⟩ := uncons 26 hs58
  clear hs58
  obtain ⟨u59, l, rfl, hs60⟩ := uncons 25 hs59
  clear hs59
  obtain ⟨u60, l, rfl, hs61⟩ := uncons 24 hs60
  clear hs60
  obtain ⟨u61, l, rfl, hs62⟩ := uncons 23 hs61
  clear hs61
  obtain ⟨u62, l, rfl, hs63⟩ := uncons 22 hs62
  clear hs62
  obtain ⟨u63, l, rfl, hs64⟩ := uncons 21 hs63
  clear hs63
  obtain ⟨u64, l, rfl, hs65⟩ := uncons 20 hs64
  clear hs64
  obtain ⟨u65, l, rfl, hs66⟩ := uncons 19 hs65
  clear hs65
  obtain ⟨u66, l, rfl, hs67⟩ := uncons 18 hs66
  clear hs66
  obtain ⟨u67, l, rfl, hs68⟩ := uncons 17 hs67
  clear hs67
  obtain ⟨u68, l, rfl, hs69⟩ := uncons 16 hs68
  clear hs68
  obtain ⟨u69, l, rfl, hs70⟩ := uncons 15 hs69
  clear hs69
  obtain ⟨u70, l, rfl, hs71⟩ := uncons 14 hs70
  clear hs70
  obtain ⟨u71, l, rfl, hs72⟩ := uncons 13 hs71
  clear hs71
  obtain ⟨u72, l, rfl, hs73⟩ := uncons 12 hs72
  clear hs72
  obtain ⟨u73, l, rfl, hs74⟩ := uncons 11 hs73
  clear hs73
  obtain ⟨u74, l, rfl, hs75⟩ := uncons 10 hs74
  clear hs74
  obtain ⟨u75, l, rfl, hs76⟩ := uncons 9 hs75
  clear hs75
  obtain ⟨u76, l, rfl, hs77⟩ := uncons 8 hs76
  clear hs76
  obtain ⟨u77, l, rfl, hs78⟩ := uncons 7 hs77
  clear hs77
  obtain ⟨u78, l, rfl, hs79⟩ := uncons 6 hs78
  clear hs78
  obtain ⟨u79, l, rfl, hs80⟩ := uncons 5 hs79
  clear hs79
  obtain ⟨u80, l, rfl, hs81⟩ := uncons 4 hs80
  clear hs80
  obtain ⟨u81, l, rfl, hs82⟩ := uncons 3 hs81
  clear hs81
  obtain ⟨u82, l, rfl, hs83⟩ := uncons 2 hs82
  clear hs82
  obtain ⟨u83, l, rfl, hs84⟩ := uncons 1 hs83
  clear hs83
  obtain ⟨u84, l, rfl, hs85⟩ := uncons 0 hs84
  clear hs84
  obtain rfl := List.eq_nil_of_length_eq_zero hs85
  have h1 : some u1 = some v1 := h1
  injection h1 with h1
  subst h1
  have h29 : some u29 = some v29 := h29
  injection h29 with h29
  subst h29
  exact h u0 u2 u3 u4 u5 u6 u7 u8 u9 u10 u11 u12 u13 u14 u15 u16 u17 u18 u19 u20 u21 u22 u23 u24 u25 u26 u27 u28 u30 u31 u32 u33 u34 u35 u36 u37 u38 u39 u40 u41 u42 u43 u44 u45 u46 u47 u48 u49 u50 u51 u52 u53 u54 u55 u56 u57 u58 u59 u60 u61 u62 u63 u64 u65 u66 u67 u68 u69 u70 u71 u72 u73 u74 u75 u76 u77 u78 u79 u80 u81 u82 u83 u84
theorem frame_85_1_44 {a : Act} {X : Act → Prop} {v1 v44 : Value} (hs : a.tmps.size = 85) (hd : a.defers = []) (h1 : a.tmps[1]? = some v1) (h44 : a.tmps[44]? = some v44) (h : ∀ u0 u2 u3 u4 u5 u6 u7 u8 u9 u10 u11 u12 u13 u14 u15 u16 u17 u18 u19 u20 u21 u22 u23 u24 u25 u26 u27 u28 u29 u30 u31 u32 u33 u34 u35 u36 u37 u38 u39 u40 u41 u42 u43 u45 u46 u47 u48 u49 u50 u51 u52 u53 u54 u55 u56 u57 u58 u59 u60 u61 u62 u63 u64 u65 u66 u67 u68 u69 u70 u71 u72 u73 u74 u75 u76 u77 u78 u79 u80 u81 u82 u83 u84 : Value, X ⟨#[u0, v1, u2, u3, u4, u5, u6, u7, u8, u9, u10, u11, u12, u13, u14, u15, u16, u17, u18, u19, u20, u21, u22, u23, u24, u25, u26, u27, u28, u29, u30, u31, u32, u33, u34, u35, u36, u37, u38, u39, u40, u41, u42, u43, v44, u45, u46, u47, u48, u49, u50, u51, u52, u53, u54, u55, u56, u57, u58, u59, u60, u61, u62, u63, u64, u65, u66, u67, u68, u69, u70, u71, u72, u73, u74, u75, u76, u77, u78, u79, u80, u81, u82, u83, u84], []⟩) : X a := by
  obtain ⟨⟨l⟩, d⟩ := a
  simp only at hd
  subst hd
  have hs0 : l.length = 85 := hs
  clear hs
  obtain ⟨u0, l, rfl, hs1⟩ := uncons 84 hs0
  clear hs0
  obtain ⟨u1, l, rfl, hs2⟩ := uncons 83 hs1
  clear hs1
  obtain ⟨u2, l, rfl, hs3⟩ := uncons 82 hs2
  clear hs2
  obtain ⟨u3, l, rfl, hs4⟩ := uncons 81 hs3
  clear hs3
  obtain ⟨u4, l, rfl, hs5⟩ := uncons 80 hs4
  clear hs4
  obtain ⟨u5, l, rfl, hs6⟩ := uncons 79 hs5
  clear hs5
  obtain ⟨u6, l, rfl, hs7⟩ := uncons 78 hs6
  clear hs6
  obtain ⟨u7, l, rfl, hs8⟩ := uncons 77 hs7
  clear hs7
  obtain ⟨u8, l, rfl, hs9⟩ := uncons 76 hs8
  clear hs8
  obtain ⟨u9, l, rfl, hs10⟩ := uncons 75 hs9
  clear hs9
  obtain ⟨u10, l, rfl, hs11⟩ := uncons 74 hs10
  clear hs10
  obtain ⟨u11, l, rfl, hs12⟩ := uncons 73 hs11
  clear hs11
  obtain ⟨u12, l, rfl, hs13⟩ := uncons 72 hs12
  clear hs12
  obtain ⟨u13, l, rfl, hs14⟩ := uncons 71 hs13
  clear hs13
  obtain ⟨u14, l, rfl, hs15⟩ := uncons 70 hs14
  clear hs14
  obtain ⟨u15, l, rfl, hs16⟩ := uncons 69 hs15
  clear hs15
  obtain ⟨u16, l, rfl, hs17⟩ := uncons 68 hs16
  clear hs16
  obtain ⟨u17, l, rfl, hs18⟩ := uncons 67 hs17
  clear hs17
  obtain ⟨u18, l, rfl, hs19⟩ := uncons 66 hs18
  clear hs18
  obtain ⟨u19, l, rfl, hs20⟩ := uncons 65 hs19
  clear hs19
  obtain ⟨u20, l, rfl, hs21⟩ := uncons 64 hs20
  clear hs20
  obtain ⟨u21, l, rfl, hs22⟩ := uncons 63 hs21
  clear hs21
  obtain ⟨u22, l, rfl, hs23⟩ := uncons 62 hs22
  clear hs22
  obtain ⟨u23, l, rfl, hs24⟩ := uncons 61 hs23
  clear hs23
  obtain ⟨u24, l, rfl, hs25⟩ := uncons 60 hs24
  clear hs24
  obtain ⟨u25, l, rfl, hs26⟩ := uncons 59 hs25
  clear hs25
  obtain ⟨u26, l, rfl, hs27⟩ := uncons 58 hs26
  clear hs26
  obtain ⟨u27, l, rfl, hs28⟩ := uncons 57 hs27
  clear hs27
  obtain ⟨u28, l, rfl, hs29⟩ := uncons 56 hs28
  clear hs28
  obtain ⟨u29, l, rfl, hs30⟩ := uncons 55 hs29
  clear hs29
  obtain ⟨u30, l, rfl, hs31⟩ := uncons 54 hs30
  clear hs30
  obtain ⟨u31, l, rfl, hs32⟩ := uncons 53 hs31
  clear hs31
  obtain ⟨u32, l, rfl, hs33⟩ := uncons 52 hs32
  clear hs32
  obtain ⟨u33, l, rfl, hs34⟩ := uncons 51 hs33
  clear hs33
  obtain ⟨u34, l, rfl, hs35⟩ := uncons 50 hs34
  clear hs34
  obtain ⟨u35, l, rfl, hs36⟩ := uncons 49 hs35
  clear hs35
  obtain ⟨u36, l, rfl, hs37⟩ := uncons 48 hs36
  clear hs36
  obtain ⟨u37, l, rfl, hs38⟩ := uncons 47 hs37
  clear hs37
  obtain ⟨u38, l, rfl, hs39⟩ := uncons 46 hs38
  clear hs38
  obtain ⟨u39, l, rfl, hs40⟩ := uncons 45 hs39
  clear hs39
  obtain ⟨u40, l, rfl, hs41⟩ := uncons 44 hs40
  clear hs40
  obtain ⟨u41, l, rfl, hs42⟩ := uncons 43 hs41
  clear hs41
  obtain ⟨u42, l, rfl, hs43⟩ := uncons 42 hs42
  clear hs42
  obtain ⟨u43, l, rfl, hs44⟩ := uncons 41 hs43
  clear hs43
  obtain ⟨u44, l, rfl, hs45⟩ := uncons 40 hs44
  clear hs44
  obtain ⟨u45, l, rfl, hs46⟩ := uncons 39 hs45
  clear hs45
  obtain ⟨u46, l, rfl, hs47⟩ := uncons 38 hs46
  clear hs46
  obtain ⟨u47, l, rfl, hs48⟩ := uncons 37 hs47
  clear hs47
  obtain ⟨u48, l, rfl, hs49⟩ := uncons 36 hs48
  clear hs48
  obtain ⟨u49, l, rfl, hs50⟩ := uncons 35 hs49
  clear hs49
  obtain ⟨u50, l, rfl, hs51⟩ := uncons 34 hs50
  clear hs50
  obtain ⟨u51, l, rfl, hs52⟩ := uncons 33 hs51
  clear hs51
  obtain ⟨u52, l, rfl, hs53⟩ := uncons 32 hs52
  clear hs52
  obtain ⟨u53, l, rfl, hs54⟩ := uncons 31 hs53
  clear hs53
  obtain ⟨u54, l, rfl, hs55⟩ := uncons 30 hs54
  clear hs54
  obtain ⟨u55, l, rfl, hs56⟩ := uncons 29 hs55
  clear hs55
  obtain ⟨u56, l, rfl, hs57⟩ := uncons 28 hs56
  clear hs56
  obtain ⟨u57, l, rfl, hs58⟩ := uncons 27 hs57
  clear hs57
  obtain ⟨u58, l, rfl, hs59⟩ := uncons 26 hs58
  clear hs58
  obtain ⟨u59, l, rfl, hs60⟩ := uncons 25 hs59
  clear hs59
  obtain ⟨u60, l, rfl, hs61⟩ := uncons 24 hs60
  clear hs60
  obtain ⟨u61, l, rfl, hs62⟩ := uncons 23 hs61
  clear hs61
  obtain ⟨u62, l, rfl, hs63⟩ := uncons 22 hs62
  clear hs62
  obtain ⟨u63, l, rfl, hs64⟩ := uncons 21 hs63
  clear hs63
  obtain ⟨u64, l, rfl, hs65⟩ := uncons 20 hs64
  clear hs64
  obtain ⟨u65, l, rfl, hs66⟩ := uncons 19 hs65
  clear hs65
  obtain ⟨u66, l, rfl, hs67⟩ := uncons 18 hs66
  clear hs66
  obtain ⟨u67, l, rfl, hs68⟩ := uncons 17 hs67
  clear hs67
  obtain ⟨u68, l, rfl, hs69⟩ := uncons 16 hs68
  clear hs68
  obtain ⟨u69, l, rfl, hs70⟩ := uncons 15 hs69
  clear hs69
  obtain ⟨u70, l, rfl, hs71⟩ := uncons 14 hs70
  clear hs70
  obtain ⟨u71, l, rfl, hs72⟩ := uncons 13 hs71
  clear hs71
  obtain ⟨u72, l, rfl, hs73⟩ := uncons 12 hs72
  clear hs72
  obtain ⟨u73, l, rfl, hs74⟩ := uncons 11 hs73
  clear hs73
  obtain ⟨u74, l, rfl, hs75⟩ := uncons 10 hs74
  clear hs74
  obtain ⟨u75, l, rfl, hs76⟩ := uncons 9 hs75
  clear hs75
  obtain ⟨u76, l, rfl, hs77⟩ := uncons 8 hs76
  clear hs76
  obtain ⟨u77, l, rfl, hs78⟩ := uncons 7 hs77
  clear hs77
  obtain ⟨u78, l, rfl, hs79⟩ := uncons 6 hs78
  clear hs78
  obtain ⟨u79, l, rfl, hs80⟩ := uncons 5 hs79
  clear hs79
  obtain ⟨u80, l, rfl, hs81⟩ := uncons 4 hs80
  clear hs80
  obtain ⟨u81, l, rfl, hs82⟩ := uncons 3 hs81
  clear hs81
  obtain ⟨u82, l, rfl, hs83⟩ := uncons 2 hs82
  clear hs82
  obtain ⟨u83, l, rfl, hs84⟩ := uncons 1 hs83
  clear hs83
  obtain ⟨u84, l, rfl, hs85⟩ := uncons 0 hs84
  clear hs84
  obtain rfl := List.eq_nil_of_length_eq_zero hs85
  have h1 : some u1 = some v1 := h1
  injection h1 with h1
  subst h1
  have h44 : some u44 = some v44 := h44
  injection h44 with h44
  subst h44
  exact h u0 u2 u3 u4 u5 u6 u7 u8 u9 u10 u11 u12 u13 u14 u15 u16 u17 u18 u19 u20 u21 u22 u23 u24 u25 u26 u27 u28 u29 u30 u31 u32 u33 u34 u35 u36 u37 u38 u39 u40 u41 u42 u43 u45 u46 u47 u48 u49 u50 u51 u52 u53 u54 u55 u56 u57 u58 u59 u60 u61 u62 u63 u64 u65 u66 u67 u68 u69 u70 u71 u72 u73 u74 u75 u76 u77 u78 u79 u80 u81 u82 u83 u84
theorem frame_85_1_53 {a : Act} {X : Act → Prop} {v1 v53 : Value} (hs : a.tmps.size = 85) (hd : a.defers = []) (h1 : a.tmps[1]? = some v1) (h53 : a.tmps[53]? = some v53) (h : ∀ u0 u2 u3 u4 u5 u6 u7 u8 u9 u10 u11 u12 u13 u14 u15 u16 u17 u18 u19 u20 u21 u22 u23 u24 u25 u26 u27 u28 u29 u30 u31 u32 u33 u34 u35 u36 u37 u38 u39 u40 u41 u42 u43 u44 u45 u46 u47 u48 u49 u50 u51 u52 u54 u55 u56 u57 u58 u59 u60 u61 u62 u63 u64 u65 u66 u67 u68 u69 u70 u71 u72 u73 u74 u75 u76 u77 u78 u79 u80 u81 u82 u83 u84 : Value, X ⟨#[u0, v1, u2, u3, u4, u5, u6, u7, u8, u9, u10, u11, u12, u13, u14, u15, u16, u17, u18, u19, u20, u21, u22, u23, u24, u25, u26, u27, u28, u29, u30, u31, u32, u33, u34, u35, u36, u37, u38, u39, u40, u41, u42, u43, u44, u45, u46, u47, u48, u49, u50, u51, u52, v53, u54, u55, u56, u57, u58, u59, u60, u61, u62, u63, u64, u65, u66, u67, u68, u69, u70, u71, u72, u73, u74, u75, u76, u77, u78, u79, u80, u81, u82, u83, u84], []⟩) : X a := by
  obtain ⟨⟨l⟩, d⟩ := a
  simp only at hd
  subst hd
  have hs0 : l.length = 85 := hs
  clear hs
  obtain ⟨u0, l, rfl, hs1⟩ := uncons 84 hs0
  clear hs0
  obtain ⟨u1, l, rfl, hs2⟩ := uncons 83 hs1
  clear hs1
  obtain ⟨u2, l, rfl, hs3⟩ := uncons 82 hs2
  clear hs2
  obtain ⟨u3, l, rfl, hs4⟩ := uncons 81 hs3
  clear hs3
  obtain ⟨u4, l, rfl, hs5⟩ := uncons 80 hs4
  clear hs4
  obtain ⟨u5, l, rfl, hs6⟩ := uncons 79 hs5
  clear hs5
  obtain ⟨u6, l, rfl, hs7⟩ := uncons 78 hs6
  clear hs6
  obtain ⟨u7, l, rfl, hs8⟩ := uncons 77 hs7
  clear hs7
  obtain ⟨u8, l, rfl, hs9⟩ := uncons 76 hs8
  clear hs8
  obtain ⟨u9, l, rfl, hs10⟩ := uncons 75 hs9
  clear hs9
  obtain ⟨u10, l, rfl, hs11⟩ := uncons 74 hs10
  clear hs10
  obtain ⟨u11, l, rfl, hs12⟩ := uncons 73 hs11
  clear hs11
  obtain ⟨u12, l, rfl, hs13⟩ := uncons 72 hs12
  clear hs12
  obtain ⟨u13, l, rfl, hs14⟩ := uncons 71 hs13
  clear hs13
  obtain ⟨u14, l, rfl, hs15⟩ := uncons 70 hs14
  clear hs14
  obtain ⟨u15, l, rfl, hs16⟩ := uncons 69 hs15
  clear hs15
  obtain ⟨u16, l, rfl, hs17⟩ := uncons 68 hs16
  clear hs16
  obtain ⟨u17, l, rfl, hs18⟩ := uncons 67 hs17
  clear hs17
  obtain ⟨u18, l, rfl, hs19⟩ := uncons 66 hs18
  clear hs18
  obtain ⟨u19, l, rfl, hs20⟩ := uncons 65 hs19
  clear hs19
  obtain ⟨u20, l, rfl, hs21⟩ := uncons 64 hs20
  clear hs20
  obtain ⟨u21, l, rfl, hs22⟩ := uncons 63 hs21
  clear hs21
  obtain ⟨u22, l, rfl, hs23⟩ := uncons 62 hs22
  clear hs22
  obtain ⟨u23, l, rfl, hs24⟩ := uncons 61 hs23
  clear hs23
  obtain ⟨u24, l, rfl, hs25⟩ := uncons 60 hs24
  clear hs24
  obtain ⟨u25, l, rfl, hs26⟩ := uncons 59 hs25
  clear hs25
  obtain ⟨u26, l, rfl, hs27⟩ := uncons 58 hs26
  clear hs26
  obtain ⟨u27, l, rfl, hs28⟩ := uncons 57 hs27
  clear hs27
  obtain ⟨u28, l, rfl, hs29⟩ := uncons 56 hs28
  clear hs28
  obtain ⟨u29, l, rfl, hs30⟩ := uncons 55 hs29
  clear hs29
  obtain ⟨u30, l, rfl, hs31⟩ := uncons 54 hs30
  clear hs30
  obtain ⟨u31, l, rfl, hs32⟩ := uncons 53 hs31
  clear hs31
  obtain ⟨u32, l, rfl, hs33⟩ := uncons 52 hs32
  clear hs32
  obtain ⟨u33, l, rfl, hs34⟩ := uncons 51 hs33
  clear hs33
  obtain ⟨u34, l, rfl, hs35⟩ := uncons 50 hs34
  clear hs34
  obtain ⟨u35, l, rfl, hs36⟩ := uncons 49 hs35
  clear hs35
  obtain ⟨u36, l, rfl, hs37⟩ := uncons 48 hs36
  clear hs36
  obtain ⟨u37, l, rfl, hs38⟩ := uncons 47 hs37
  clear hs37
  obtain ⟨u38, l, rfl, hs39⟩ := uncons 46 hs38
  clear hs38
  obtain ⟨u39, l, rfl, hs40⟩ := uncons 45 hs39
  clear hs39
  obtain ⟨u40, l, rfl, hs41⟩ := uncons 44 hs40
  clear hs40
  obtain ⟨u41, l, rfl, hs42⟩ := uncons 43 hs41
  clear hs41
  obtain ⟨u42, l, rfl, hs43⟩ := uncons 42 hs42
  clear hs42
  obtain ⟨u43, l, rfl, hs44⟩ := uncons 41 hs43
  clear hs43
  obtain ⟨u44, l, rfl, hs45⟩ := uncons 40 hs44
  clear hs44
  obtain ⟨u45, l, rfl, hs46⟩ := uncons 39 hs45
  clear hs45
  obtain ⟨u46, l, rfl, hs47⟩ := uncons 38 hs46
  clear hs46
  obtain ⟨u47, l, rfl, hs48⟩ := uncons 37 hs47
  clear hs47
  obtain ⟨u48, l, rfl, hs49⟩ := uncons 36 hs48
  clear hs48
  obtain ⟨u49, l, rfl, hs50⟩ := uncons 35 hs49
  clear hs49
  obtain ⟨u50, l, rfl, hs51⟩ := uncons 34 hs50
  clear hs50
  obtain ⟨u51, l, rfl, hs52⟩ := uncons 33 hs51
  clear hs51
  obtain ⟨u52, l, rfl, hs53⟩ := uncons 32 hs52
  clear hs52
  obtain ⟨u53, l, rfl, hs54⟩ := uncons 31 hs53
  clear hs53
  obtain ⟨u54, l, rfl, hs55⟩ := uncons 30 hs54
  clear hs54
  obtain ⟨u55, l, rfl, hs56⟩ := uncons 29 hs55
  clear hs55
  obtain ⟨u56, l, rfl, hs57⟩ := uncons 28 hs56
  clear hs56
  obtain ⟨u57, l, rfl, hs58⟩ := uncons 27 hs57
  clear hs57
  obtain ⟨u58, l, rfl, hs59⟩ := uncons 26 hs58
  clear hs58
  obtain ⟨u59, l, rfl, hs60⟩ := uncons 25 hs59
  clear hs59
  obtain ⟨u60, l, rfl, hs61⟩ := uncons 24 hs60
  clear hs60
  obtain ⟨u61, l, rfl, hs62⟩ := uncons 23 hs61
  clear hs61
  obtain ⟨u62, l, rfl, hs63⟩ := uncons 22 hs62
  clear hs62
  obtain ⟨u63, l, rfl, hs64⟩ := uncons 21 hs63
  clear hs63
  obtain ⟨u64, l, rfl, hs65⟩ := uncons 20 hs64
  clear hs64
  obtain ⟨u65, l, rfl, hs66⟩ := uncons 19 hs65
  clear hs65
  obtain ⟨u66, l, rfl, hs67⟩ := uncons 18 hs66
  clear hs66
  obtain ⟨u67, l, rfl, hs68⟩ := uncons 17 hs67
  clear hs67
  obtain ⟨u68, l, rfl, hs69⟩ := uncons 16 hs68
  clear hs68
  obtain ⟨u69, l, rfl, hs70⟩ := uncons 15 hs69
  clear hs69
  obtain ⟨u70, l, rfl, hs71⟩ := uncons 14 hs70
  clear hs70
  obtain ⟨u71, l, rfl, hs72⟩ := uncons 13 hs71
  clear hs71
  obtain ⟨u72, l, rfl, hs73⟩ := uncons 12 hs72
  clear hs72
  obtain ⟨u73, l, rfl, hs74⟩ := uncons 11 hs73
  clear hs73
  obtain ⟨u74, l, rfl, hs75⟩ := uncons 10 hs74
  clear hs74
  obtain ⟨u75, l, rfl, hs76⟩ := uncons 9 hs75
  clear hs75
  obtain ⟨u76, l, rfl, hs77⟩ := uncons 8 hs76
  clear hs76
  obtain ⟨u77, l, rfl, hs78⟩ := uncons 7 hs77
  clear hs77
  obtain ⟨u78, l, rfl, hs79⟩ := uncons 6 hs78
  clear hs78
  obtain ⟨u79, l, rfl, hs80⟩ := uncons 5 hs79
  clear hs79
  obtain ⟨u80, l, rfl, hs81⟩ := uncons 4 hs80
  clear hs80
  obtain ⟨u81, l, rfl, hs82⟩ := uncons 3 hs81
  clear hs81
  obtain ⟨u82, l, rfl, hs83⟩ := uncons 2 hs82
  clear hs82
  obtain ⟨u83, l, rfl, hs84⟩ := uncons 1 hs83
  clear hs83
  obtain ⟨u84, l, rfl, hs85⟩ := uncons 0 hs84
  clear hs84
  obtain rfl := List.eq_nil_of_length_eq_zero hs85
  have h1 : some u1 = some v1 := h1
  injection h1 with h1
  subst h1
  have h53 : some u53 = some v53 := h53
  injection h53 with h53
  subst h53
  exact h u0 u2 u3 u4 u5 u6 u7 u8 u9 u10 u11 u12 u13 u14 u15 u16 u17 u18 u19 u20 u21 u22 u23 u24 u25 u26 u27 u28 u29 u30 u31 u32 u33 u34 u35 u36 u37 u38 u39 u40 u41 u42 u43 u44 u45 u46 u47 u48 u49 u50 u51 u52 u54 u55 u56 u57 u58 u59 u60 u61 u62 u63 u64 u65 u66 u67 u68 u69 u70 u71 u72 u73 u74 u75 u76 u77 u78 u79 u80 u81 u82 u83 u84
theorem frame_85_1_63 {a : Act} {X : Act → Prop} {v1 v63 : Value} (hs : a.tmps.size = 85) (hd : a.defers = []) (h1 : a.tmps[1]? = some v1) (h63 : a.tmps[63]? = some v63) (h : ∀ u0 u2 u3 u4 u5 u6 u7 u8 u9 u10 u11 u12 u13 u14 u15 u16 u17 u18 u19 u20 u21 u22 u23 u24 u25 u26 u27 u28 u29 u30 u31 u32 u33 u34 u35 u36 u37 u38 u39 u40 u41 u42 u43 u44 u45 u46 u47 u48 u49 u50 u51 u52 u53 u54 u55 u56 u57 u58 u59 u60 u61 u62 u64 u65 u66 u67 u68 u69 u70 u71 u72 u73 u74 u75 u76 u77 u78 u79 u80 u81 u82 u83 u84 : Value, X ⟨#[u0, v1, u2, u3, u4, u5, u6, u7, u8, u9, u10, u11, u12, u13, u14, u15, u16, u17, u18, u19, u20, u21, u22, u23, u24, u25, u26, u27, u28, u29, u30, u31, u32, u33, u34, u35, u36, u37, u38, u39, u40, u41, u42, u43, u44, u45, u46, u47, u48, u49, u50, u51, u52, u53, u54, u55, u56, u57, u58, u59, u60, u61, u62, v63, u64, u65, u66, u67, u68, u69, u70, u71, u72, u73, u74, u75, u76, u77, u78, u79, u80, u81, u82, u83, u84], []⟩) : X a := by
  obtain ⟨⟨l⟩, d⟩ := a
  simp only at hd
  subst hd
  have hs0 : l.length = 85 := hs
  clear hs
  obtain ⟨u0, l, rfl, hs1⟩ := uncons 84 hs0
  clear hs0
  obtain ⟨u1, l, rfl, hs2⟩ := uncons 83 hs1
  clear hs1
  obtain ⟨u2, l, rfl, hs3⟩ := uncons 82 hs2
  clear hs2
  obtain ⟨u3, l, rfl, hs4⟩ := uncons 81 hs3
  clear hs3
  obtain ⟨u4, l, rfl, hs5⟩ := uncons 80 hs4
  clear hs4
  obtain ⟨u5, l, rfl, hs6⟩ := uncons 79 hs5
  clear hs5
  obtain ⟨u6, l, rfl, hs7⟩ := uncons 78 hs6
  clear hs6
  obtain ⟨u7, l, rfl, hs8⟩ := uncons 77 hs7
  clear hs7
  obtain ⟨u8, l, rfl, hs9⟩ := uncons 76 hs8
  clear hs8
  obtain ⟨u9, l, rfl, hs10⟩ := uncons 75 hs9
  clear hs9
  obtain ⟨u10, l, rfl, hs11⟩ := uncons 74 hs10
  clear hs10
  obtain ⟨u11, l, rfl, hs12⟩ := uncons 73 hs11
  clear hs11
  obtain ⟨u12, l, rfl, hs13⟩ := uncons 72 hs12
  clear hs12
  obtain ⟨u13, l, rfl, hs14⟩ := uncons 71 hs13
  clear hs13
  obtain ⟨u14, l, rfl, hs15⟩ := uncons 70 hs14
  clear hs14
  obtain ⟨u15, l, rfl, hs16⟩ := uncons 69 hs15
  clear hs15
  obtain ⟨u16, l, rfl, hs17⟩ := uncons 68 hs16
  clear hs16
  obtain ⟨u17, l, rfl, hs18⟩ := uncons 67 hs17
  clear hs17
  obtain ⟨u18, l, rfl, hs19⟩ := uncons 66 hs18
  clear hs18
  obtain ⟨u19, l, rfl, hs20⟩ := uncons 65 hs19
  clear hs19
  obtain ⟨u20, l, rfl, hs21⟩ := uncons 64 hs20
  clear hs20
  obtain ⟨u21, l, rfl, hs22⟩ := uncons 63 hs21
  clear hs21
  obtain ⟨u22, l, rfl, hs23⟩ := uncons 62 hs22
  clear hs22
  obtain ⟨u23, l, rfl, hs24⟩ := uncons 61 hs23
  clear hs23
  obtain ⟨u24, l, rfl, hs25⟩ := uncons 60 hs24
  clear hs24
  obtain ⟨u25, l, rfl, hs26⟩ := uncons 59 hs25
  clear hs25
  obtain ⟨u26, l, rfl, hs27⟩ := uncons 58 hs26
  clear hs26
  obtain ⟨u27, l, rfl, hs28⟩ := uncons 57 hs27
  clear hs27
  obtain ⟨u28, l, rfl, hs29⟩ := uncons 56 hs28
  clear hs28
  obtain ⟨u29, l, rfl, hs30⟩ := uncons 55 hs29
  clear hs29
  obtain ⟨u30, l, rfl, hs31⟩ := uncons 54 hs30
  clear hs30
  obtain ⟨u31, l, rfl, hs32⟩ := uncons 53 hs31
  clear hs31
  obtain ⟨u32, l, rfl, hs33⟩ := uncons 52 hs32
  clear hs32
  obtain ⟨u33, l, rfl, hs34⟩ := uncons 51 hs33
  clear hs33
  obtain ⟨u34, l, rfl, hs35⟩ := uncons 50 hs34
  clear hs34
  obtain ⟨u35, l, rfl, hs36⟩ := uncons 49 hs35
  clear hs35
  obtain ⟨u36, l, rfl, hs37⟩ := uncons 48 hs36
  clear hs36
  obtain ⟨u37, l, rfl, hs38⟩ := uncons 47 hs37
  clear hs37
  obtain ⟨u38, l, rfl, hs39⟩ := uncons 46 hs38
  clear hs38
  obtain ⟨u39, l, rfl, hs40⟩ := uncons 45 hs39
  clear hs39
  obtain ⟨u40, l, rfl, hs41⟩ := uncons 44 hs40
  clear hs40
  obtain ⟨u41, l, rfl, hs42⟩ := uncons 43 hs41
  clear hs41
  obtain ⟨u42, l, rfl, hs43⟩ := uncons 42 hs42
  clear hs42
  obtain ⟨u43, l, rfl, hs44⟩ := uncons 41 hs43
  clear hs43
  obtain ⟨u44, l, rfl, hs45⟩ := uncons 40 hs44
  clear hs44
  obtain ⟨u45, l, rfl, hs46⟩ := uncons 39 hs45
  clear hs45
  obtain ⟨u46, l, rfl, hs47⟩ := uncons 38 hs46
  clear hs46
  obtain ⟨u47, l, rfl, hs48⟩ := uncons 37 hs47
  clear hs47
  obtain ⟨u48, l, rfl, hs49⟩ := uncons 36 hs48
  clear hs48
  obtain ⟨u49, l, rfl, hs50⟩ := uncons 35 hs49
  clear hs49
  obtain ⟨u50, l, rfl, hs51⟩ := uncons 34 hs50
  clear hs50
  obtain ⟨u51, l, rfl, hs52⟩ := uncons 33 hs51
  clear hs51
  obtain ⟨u52, l, rfl, hs53⟩ := uncons 32 hs52
  clear hs52
  obtain ⟨u53, l, rfl, hs54⟩ := uncons 31 hs53
  clear hs53
  obtain ⟨u54, l, rfl, hs55⟩ := uncons 30 hs54
  clear hs54
  obtain ⟨u55, l, rfl, hs56⟩ := uncons 29 hs55
  clear hs55
  obtain ⟨u56, l, rfl, hs57⟩ := uncons 28 hs56
  clear hs56
  obtain ⟨u57, l, rfl, hs58⟩ := uncons 27 hs57
  clear hs57
  obtain ⟨u58, l, rfl, hs59⟩ := uncons 26 hs58
  clear hs58
  obtain ⟨u59, l, rfl, hs60⟩ := uncons 25 hs59
  clear hs59
  obtain ⟨u60, l, rfl, hs61⟩ := uncons 24 hs60
  clear hs60
  obtain ⟨u61, l, rfl, hs62⟩ := uncons 23 hs61
  clear hs61
  obtain ⟨u62, l, rfl, hs63⟩ := uncons 22 hs62
  clear hs62
  obtain ⟨u63, l, rfl, hs64⟩ := uncons 21 hs63
  clear hs63
  obtain ⟨u64, l, rfl, hs65⟩ := uncons 20 hs64
  clear hs64
  obtain ⟨u65, l, rfl, hs66⟩ := uncons 19 hs65
  clear hs65
  obtain ⟨u66, l, rfl, hs67⟩ := uncons 18 hs66
  clear hs66
  obtain ⟨u67, l, rfl, hs68⟩ := uncons 17 hs67
  clear hs67
  obtain ⟨u68, l, rfl, hs69⟩ := uncons 16 hs68
  clear hs68
  obtain ⟨u69, l, rfl, hs70⟩ := uncons 15 hs69
  clear hs69
  obtain ⟨u70, l, rfl, hs71⟩ := uncons 14 hs70
  clear hs70
  obtain ⟨u71, l, rfl, hs72⟩ := uncons 13 hs71
  clear hs71
  obtain ⟨u72, l, rfl, hs73⟩ := uncons 12 hs72
  clear hs72
  obtain ⟨u73, l, rfl, hs74⟩ := uncons 11 hs73
  clear hs73
  obtain ⟨u74, l, rfl, hs75⟩ := uncons 10 hs74
  clear hs74
  obtain ⟨u75, l, rfl, hs76⟩ := uncons 9 hs75
  clear hs75
  obtain ⟨u76, l, rfl, hs77⟩ := uncons 8 hs76
  clear hs76
  obtain ⟨u77, l, rfl, hs78⟩ := uncons 7 hs77
  clear hs77
  obtain ⟨u78, l, rfl, hs79⟩ := uncons 6 hs78
  clear hs78
  obtain ⟨u79, l, rfl, hs80⟩ := uncons 5 hs79
  clear hs79
  obtain ⟨u80, l, rfl, hs81⟩ := uncons 4 hs80
  clear hs80
  obtain ⟨u81, l, rfl, hs82⟩ := uncons 3 hs81
  clear hs81
  obtain ⟨u82, l, rfl, hs83⟩ := uncons 2 hs82
  clear hs82
  obtain ⟨u83, l, rfl, hs84⟩ := uncons 1 hs83
  clear hs83
  obtain ⟨u84, l, rfl, hs85⟩ := uncons 0 hs84
  clear hs84
  obtain rfl := List.eq_nil_of_length_eq_zero hs85
  have h1 : some u1 = some v1 := h1
  injection h1 with h1
  subst h1
  have h63 : some u63 = some v63 := h63
  injection h63 with h63
  subst h63
  exact h u0 u2 u3 u4 u5 u6 u7 u8 u9 u10 u11 u12 u13 u14 u15 u16 u17 u18 u19 u20 u21 u22 u23 u24 u25 u26 u27 u28 u29 u30 u31 u32 u33 u34 u35 u36 u37 u38 u39 u40 u41 u42 u43 u44 u45 u46 u47 u48 u49 u50 u51 u52 u53 u54 u55 u56 u57 u58 u59 u60 u61 u62 u64 u65 u66 u67 u68 u69 u70 u71 u72 u73 u74 u75 u76 u77 u78 u79 u80 u81 u82 u83 u84
theorem frame_85_1_74 {a : Act} {X : Act → Prop} {v1 v74 : Value} (hs : a.tmps.size = 85) (hd : a.defers = []) (h1 : a.tmps[1]? = some v1) (h74 : a.tmps[74]? = some v74) (h : ∀ u0 u2 u3 u4 u5 u6 u7 u8 u9 u10 u11 u12 u13 u14 u15 u16 u17 u18 u19 u20 u21 u22 u23 u24 u25 u26 u27 u28 u29 u30 u31 u32 u33 u34 u35 u36 u37 u38 u39 u40 u41 u42 u43 u44 u45 u46 u47 u48 u49 u50 u51 u52 u53 u54 u55 u56 u57 u58 u59 u60 u61 u62 u63 u64 u65 u66 u67 u68 u69 u70 u71 u72 u73 u75 u76 u77 u78 u79 u80 u81 u82 u83 u84 : Value, X ⟨#[u0, v1, u2, u3, u4, u5, u6, u7, u8, u9, u10, u11, u12, u13, u14, u15, u16, u17, u18, u19, u20, u21, u22, u23, u24, u25, u26, u27, u28, u29, u30, u31, u32, u33, u34, u35, u36, u37, u38, u39, u40, u41, u42, u43, u44, u45, u46, u47, u48, u49, u50, u51, u52, u53, u54, u55, u56, u57, u58, u59, u60, u61, u62, u63, u64, u65, u66, u67, u68, u69, u70, u71, u72, u73, v74, u75, u76, u77, u78, u79, u80, u81, u82, u83, u84], []⟩) : X a := by
  obtain ⟨⟨l⟩, d⟩ := a
  simp only at hd
  subst hd
  have hs0 : l.length = 85 := hs
  clear hs
  obtain ⟨u0, l, rfl, hs1⟩ := uncons 84 hs0
  clear hs0
  obtain ⟨u1, l, rfl, hs2⟩ := uncons 83 hs1
  clear hs1
  obtain ⟨u2, l, rfl, hs3⟩ := uncons 82 hs2
  clear hs2
  obtain ⟨u3, l, rfl, hs4⟩ := uncons 81 hs3
  clear hs3
  obtain ⟨u4, l, rfl, hs5⟩ := uncons 80 hs4
  clear hs4
  obtain ⟨u5, l, rfl, hs6⟩ := uncons 79 hs5
  clear hs5
  obtain ⟨u6, l, rfl, hs7⟩ := uncons 78 hs6
  clear hs6
  obtain ⟨u7, l, rfl, hs8⟩ := uncons 77 hs7
  clear hs7
  obtain ⟨u8, l, rfl, hs9⟩ := uncons 76 hs8
  clear hs8
  obtain ⟨u9, l, rfl, hs10⟩ := uncons 75 hs9
  clear hs9
  obtain ⟨u10, l, rfl, hs11⟩ := uncons 74 hs10
  clear hs10
  obtain ⟨u11, l, rfl, hs12⟩ := uncons 73 hs11
  clear hs11
  obtain ⟨u12, l, rfl, hs13⟩ := uncons 72 hs12
  clear hs12
  obtain ⟨u13, l, rfl, hs14⟩ := uncons 71 hs13
  clear hs13
  obtain ⟨u14, l, rfl, hs15⟩ := uncons 70 hs14
  clear hs14
  obtain ⟨u15, l, rfl, hs16⟩ := uncons 69 hs15
  clear hs15
  obtain ⟨u16, l, rfl, hs17⟩ := uncons 68 hs16
  clear hs16
  obtain ⟨u17, l, rfl, hs18⟩ := uncons 67 hs17
  clear hs17
  obtain ⟨u18, l, rfl, hs19⟩ := uncons 66 hs18
  clear hs18
  obtain ⟨u19, l, rfl, hs20⟩ := uncons 65 hs19
  clear hs19
  obtain ⟨u20, l, rfl, hs21⟩ := uncons 64 hs20
  clear hs20
  obtain ⟨u21, l, rfl, hs22⟩ := uncons 63 hs21
  clear hs21
  obtain ⟨u22, l, rfl, hs23⟩ := uncons 62 hs22
  clear hs22
  obtain ⟨u23, l, rfl, hs24⟩ := uncons 61 hs23
  clear hs23
  obtain ⟨u24, l, rfl, hs25⟩ := uncons 60 hs24
  clear hs24
  obtain ⟨u25, l, rfl, hs26⟩ := uncons 59 hs25
  clear hs25
  obtain ⟨u26, l, rfl, hs27⟩ := uncons 58 hs26
  clear hs26
  obtain ⟨u27, l, rfl, hs28⟩ := uncons 57 hs27
  clear hs27
  obtain ⟨u28, l, rfl, hs29⟩ := uncons 56 hs28
  clear hs28
  obtain ⟨u29, l, rfl, hs30⟩ := uncons 55 hs29
  clear hs29
  obtain ⟨u30, l, rfl, hs31⟩ := uncons 54 hs30
  clear hs30
  obtain ⟨u31, l, rfl, hs32⟩ := uncons 53 hs31
  clear hs31
  obtain ⟨u32, l, rfl, hs33⟩ := uncons 52 hs32
  clear hs32
  obtain ⟨u33, l, rfl, hs34⟩ := uncons 51 hs33
  clear hs33
  obtain ⟨u34, l, rfl, hs35⟩ := uncons 50 hs34
  clear hs34
  obtain ⟨u35, l, rfl, hs36⟩ := uncons 49 hs35
  clear hs35
  obtain ⟨u36, l, rfl, hs37⟩ := uncons 48 hs36
  clear hs36
  obtain ⟨u37, l, rfl, hs38⟩ := uncons 47 hs37
  clear hs37
  obtain ⟨u38, l, rfl, hs39⟩ := uncons 46 hs38
  clear hs38
  obtain ⟨u39, l, rfl, hs40⟩ := uncons 45 hs39
  clear hs39
  obtain ⟨u40, l, rfl, hs41⟩ := uncons 44 hs40
  clear hs40
  obtain ⟨u41, l, rfl, hs42⟩ := uncons 43 hs41
  clear hs41
  obtain ⟨u42, l, rfl, hs43⟩ := uncons 42 hs42
  clear hs42
  obtain ⟨u43, l, rfl, hs44⟩ := uncons 41 hs43
  clear hs43
  obtain ⟨u44, l, rfl, hs45⟩ := uncons 40 hs44
  clear hs44
  obtain ⟨u45, l, rfl, hs46⟩ := uncons 39 hs45
  clear hs45
  obtain ⟨u46, l, rfl, hs47⟩ := uncons 38 hs46
  clear hs46
  obtain ⟨u47, l, rfl, hs48⟩ := uncons 37 hs47
  clear hs47
  obtain ⟨u48, l, rfl, hs49⟩ := uncons 36 hs48
  clear hs48
  obtain ⟨u49, l, rfl, hs50⟩ := uncons 35 hs49
  clear hs49
  obtain ⟨u50, l, rfl, hs51⟩ := uncons 34 hs50
  clear hs50
  obtain ⟨u51, l, rfl, hs52⟩ := uncons 33 hs51
  clear hs51
  obtain ⟨u52, l, rfl, hs53⟩ := uncons 32 hs52
  clear hs52
  obtain ⟨u53, l, rfl, hs54⟩ := uncons 31 hs53
  clear hs53
  obtain ⟨u54, l, rfl, hs55⟩ := uncons 30 hs54
  clear hs54
  obtain ⟨u55, l, rfl, hs56⟩ := uncons 29 hs55
  clear hs55
  obtain ⟨u56, l, rfl, hs57⟩ := uncons 28 hs56
  clear hs56
  obtain ⟨u57, l, rfl, hs58⟩ := uncons 27 hs57
  clear hs57
  obtain ⟨u58, l, rfl, hs59⟩ := uncons 26 hs58
  clear hs58
  obtain ⟨u59, l, rfl, hs60⟩ := uncons 25 hs59
  clear hs59
  obtain ⟨u60, l, rfl, hs61⟩ := uncons 24 hs60
  clear hs60
  obtain ⟨u61, l, rfl, hs62⟩ := uncons 23 hs61
  clear hs61
  obtain ⟨u62, l, rfl, hs63⟩ := uncons 22 hs62
  clear hs62
  obtain ⟨u63, l, rfl, hs64⟩ := uncons 21 hs63
  clear hs63
  obtain ⟨u64, l, rfl, hs65⟩ := uncons 20 hs64
  clear hs64
  obtain ⟨u65, l, rfl, hs66⟩ := uncons 19 hs65
  clear hs65
  obtain ⟨u66, l, rfl, hs67⟩ := uncons 18 hs66
  clear hs66
  obtain ⟨u67, l, rfl, hs68⟩ := uncons 17 hs67
  clear hs67
  obtain ⟨u68, l, rfl, hs69⟩ := uncons 16 hs68
  clear hs68
  obtain ⟨u69, l, rfl, hs70⟩ := uncons 15 hs69
  clear hs69
  obtain ⟨u70, l, rfl, hs71⟩ := uncons 14 hs70
  clear hs70
  obtain ⟨u71, l, rfl, hs72⟩ := uncons 13 hs71
  clear hs71
  obtain ⟨u72, l, rfl, hs73⟩ := uncons 12 hs72
  clear hs72
  obtain ⟨u73, l, rfl, hs74⟩ := uncons 11 hs73
  clear hs73
  obtain ⟨u74, l, rfl, hs75⟩ := uncons 10 hs74
  clear hs74
  obtain ⟨u75, l, rfl, hs76⟩ := uncons 9 hs75
  clear hs75
  obtain ⟨u76, l, rfl, hs77⟩ := uncons 8 hs76
  clear hs76
  obtain ⟨u77, l, rfl, hs78⟩ := uncons 7 hs77
  clear hs77
  obtain ⟨u78, l, rfl, hs79⟩ := uncons 6 hs78
  clear hs78
  obtain ⟨u79, l, rfl, hs80⟩ := uncons 5 hs79
  clear hs79
  obtain ⟨u80, l, rfl, hs81⟩ := uncons 4 hs80
  clear hs80
  obtain ⟨u81, l, rfl, hs82⟩ := uncons 3 hs81
  clear hs81
  obtain ⟨u82, l, rfl, hs83⟩ := uncons 2 hs82
  clear hs82
  obtain ⟨u83, l, rfl, hs84⟩ := uncons 1 hs83
  clear hs83
  obtain ⟨u84, l, rfl, hs85⟩ := uncons 0 hs84
  clear hs84
  obtain rfl := List.eq_nil_of_length_eq_zero hs85
  have h1 : some u1 = some v1 := h1
  injection h1 with h1
  subst h1
  have h74 : some u74 = some v74 := h74
  injection h74 with h74
  subst h74
  exact h u0 u2 u3 u4 u5 u6 u7 u8 u9 u10 u11 u12 u13 u14 u15 u16 u17 u18 u19 u20 u21 u22 u23 u24 u25 u26 u27 u28 u29 u30 u31 u32 u33 u34 u35 u36 u37 u38 u39 u40 u41 u42 u43 u44 u45 u46 u47 u48 u49 u50 u51 u52 u53 u54 u55 u56 u57 u58 u59 u60 u61 u62 u63 u64 u65 u66 u67 u68 u69 u70 u71 u72 u73 u75 u76 u77 u78 u79 u80 u81 u82 u83 u84
set_option maxRecDepth 100000 in
set_option maxHeartbeats 8000000 in
theorem foreign_any (r : Req) (w : World) :
    Calls Tryd.prog 66 #[.agg r.cells] w fun e w' => e = .returned (.bool (forR r)) ∧ Below w.heap.size w w' := by
  have E := Blk.new w 27 r.cells
  have hb0 : Below w.heap.size w (w.alloc (.cells r.cells 42)) := (Below.refl _ _).alloc (Nat.le_refl _) _
  have B0 := Lib.hid hb0
  have H := Lib.hid (fun (w : World) => has_any r.kind w)
  unfold forR
  obtain ⟨kind, se, kk, kc, be, sl, on, su, A7, n7, c7, A8, n8, c8⟩ := r
  unfold Req.cells at B0 ⊢
  have k0 : (w.alloc (.cells #[.int .i64 kind, .int .i64 se, .int .i64 kk, .int .u8 (kc : Int), .string be, .string sl, .bool on, .string su, .slice A7 n7 c7, .slice A8 n8 c8] 42)).cell? ⟨w.heap.size, 0, none⟩ = some (.int .i64 kind) := cell_new w _ _ _ 0
  have k1 : (w.alloc (.cells #[.int .i64 kind, .int .i64 se, .int .i64 kk, .int .u8 (kc : Int), .string be, .string sl, .bool on, .string su, .slice A7 n7 c7, .slice A8 n8 c8] 42)).cell? ⟨w.heap.size, 1, none⟩ = some (.int .i64 se) := cell_new w _ _ _ 1
  have k2 : (w.alloc (.cells #[.int .i64 kind, .int .i64 se, .int .i64 kk, .int .u8 (kc : Int), .string be, .string sl, .bool on, .string su, .slice A7 n7 c7, .slice A8 n8 c8] 42)).cell? ⟨w.heap.size, 2, none⟩ = some (.int .i64 kk) := cell_new w _ _ _ 2
  have k3 : (w.alloc (.cells #[.int .i64 kind, .int .i64 se, .int .i64 kk, .int .u8 (kc : Int), .string be, .string sl, .bool on, .string su, .slice A7 n7 c7, .slice A8 n8 c8] 42)).cell? ⟨w.heap.size, 3, none⟩ = some (.int .u8 (kc : Int)) := cell_new w _ _ _ 3
  have k4 : (w.alloc (.cells #[.int .i64 kind, .int .i64 se, .int .i64 kk, .int .u8 (kc : Int), .string be, .string sl, .bool on, .string su, .slice A7 n7 c7, .slice A8 n8 c8] 42)).cell? ⟨w.heap.size, 4, none⟩ = some (.string be) := cell_new w _ _ _ 4
  have k5 : (w.alloc (.cells #[.int .i64 kind, .int .i64 se, .int .i64 kk, .int .u8 (kc : Int), .string be, .string sl, .bool on, .string su, .slice A7 n7 c7, .slice A8 n8 c8] 42)).cell? ⟨w.heap.size, 5, none⟩ = some (.string sl) := cell_new w _ _ _ 5
  have k6 : (w.alloc (.cells #[.int .i64 kind, .int .i64 se, .int .i64 kk, .int .u8 (kc : Int), .string be, .string sl, .bool on, .string su, .slice A7 n7 c7, .slice A8 n8 c8] 42)).cell? ⟨w.heap.size, 6, none⟩ = some (.bool on) := cell_new w _ _ _ 6
  have k7 : (w.alloc (.cells #[.int .i64 kind, .int .i64 se, .int .i64 kk, .int .u8 (kc : Int), .string be, .string sl, .bool on, .string su, .slice A7 n7 c7, .slice A8 n8 c8] 42)).cell? ⟨w.heap.size, 7, none⟩ = some (.string su) := cell_new w _ _ _ 7
  have k8 : (w.alloc (.cells #[.int .i64 kind, .int .i64 se, .int .i64 kk, .int .u8 (kc : Int), .string be, .string sl, .bool on, .string su, .slice A7 n7 c7, .slice A8 n8 c8] 42)).cell? ⟨w.heap.size, 8, none⟩ = some (.slice A7 n7 c7) := cell_new w _ _ _ 8
  have k9 : (w.alloc (.cells #[.int .i64 kind, .int .i64 se, .int .i64 kk, .int .u8 (kc : Int), .string be, .string sl, .bool on, .string su, .slice A7 n7 c7, .slice A8 n8 c8] 42)).cell? ⟨w.heap.size, 9, none⟩ = some (.slice A8 n8 c8) := cell_new w _ _ _ 9
  simp only at H
  clear E hb0
  simp only
  generalize hasS kind = hb at H ⊢
  go_enter Tryd.func66, Tryd.ntmps66
  go_wp2_with fail
  with_reducible refine (H.out _).mono ?_
  rintro e w' ⟨rfl, rfl⟩
  dsimp only
  go_step
  generalize (w.alloc (.cells #[.int .i64 kind, .int .i64 se, .int .i64 kk, .int .u8 (kc : Int), .string be, .string sl, .bool on, .string su, .slice A7 n7 c7, .slice A8 n8 c8] 42)) = W at *
  dsimp only [List.append]
  obtain ⟨R, hR⟩ : ∃ R : Act → World → Prop, R = (fun a' w' => W = w' ∧ a'.tmps.size = 85 ∧ a'.defers = [] ∧ a'.tmps[1]? = some (.pointer (some ⟨w.heap.size, 0, none⟩)) ∧ ∃ y : Bool, y = (!hb && se != 0) ∧ a'.tmps[12]? = some (.bool y)) := ⟨_, rfl⟩
  have HR := Lib.hid hR
  clear hR
  refine wpList_cut 7 R ?_ ?_
  rotate_left
  · intro K' hK
    simp only [List.take_succ_cons, List.take_zero]
    rcases hb with _ | _
    ·
      go_wp2_with fail
      rw [HR.out]
      refine ⟨rfl, rfl, rfl, rfl, _, ?_, rfl⟩
      simp [*]
    ·
      go_wp2_with fail
      rw [HR.out]
      refine ⟨rfl, rfl, rfl, rfl, _, ?_, rfl⟩
      simp [*]
  intro a' w' ha
  rw [HR.out] at ha
  clear HR R
  obtain ⟨rfl, hs, hd, h1, xA, h_xA, h2⟩ := ha
  have H_xA := Lib.hid h_xA
  clear h_xA
  refine frame_85_1_12 (a := a') (X := fun a' => wpList _ _ _ _ a' _) hs hd h1 h2 ?_
  clear hs hd h1 h2 a'
  intro u0 u2 u3 u4 u5 u6 u7 u8 u9 u10 u11 u13 u14 u15 u16 u17 u18 u19 u20 u21 u22 u23 u24 u25 u26 u27 u28 u29 u30 u31 u32 u33 u34 u35 u36 u37 u38 u39 u40 u41 u42 u43 u44 u45 u46 u47 u48 u49 u50 u51 u52 u53 u54 u55 u56 u57 u58 u59 u60 u61 u62 u63 u64 u65 u66 u67 u68 u69 u70 u71 u72 u73 u74 u75 u76 u77 u78 u79 u80 u81 u82 u83 u84
  simp only [List.drop_succ_cons, List.drop_zero]
  obtain ⟨R, hR⟩ : ∃ R : Act → World → Prop, R = (fun a' w' => W = w' ∧ a'.tmps.size = 85 ∧ a'.defers = [] ∧ a'.tmps[1]? = some (.pointer (some ⟨w.heap.size, 0, none⟩)) ∧ ∃ y : Bool, y = (xA || (kind != 3 && (kk != 0 || (kc : Int) != 0))) ∧ a'.tmps[29]? = some (.bool y)) := ⟨_, rfl⟩
  have HR := Lib.hid hR
  clear hR
  refine wpList_cut 17 R ?_ ?_
  rotate_left
  · intro K' hK
    simp only [List.take_succ_cons, List.take_zero]
    rcases xA with _ | _
    · by_cases hk : kind = 3
      · have b1 : (kind != 3) = false := by rw [hk]; rfl
        clear hk
        go_wp2_with fail
        rw [HR.out]
        refine ⟨rfl, rfl, rfl, rfl, _, ?_, rfl⟩
        simp [*]
      · have b1 : (kind != 3) = true := by rw [bne_iff_ne]; exact hk
        clear hk
        by_cases hq : kk = 0
        · have b2 : (kk != 0) = false := by rw [hq]; rfl
          clear hq
          go_wp2_with fail
          rw [HR.out]
          refine ⟨rfl, rfl, rfl, rfl, _, ?_, rfl⟩
          simp [*]
        · have b2 : (kk != 0) = true := by rw [bne_iff_ne]; exact hq
          clear hq
          go_wp2_with fail
          rw [HR.out]
          refine ⟨rfl, rfl, rfl, rfl, _, ?_, rfl⟩
          simp [*]
    ·
      go_wp2_with fail
      rw [HR.out]
      refine ⟨rfl, rfl, rfl, rfl, _, ?_, rfl⟩
      simp [*]
  intro a' w' ha
  rw [HR.out] at ha
  clear HR R
  obtain ⟨rfl, hs, hd, h1, xB, h_xB, h2⟩ := ha
  have H_xB := Lib.hid h_xB
  clear h_xB
  refine frame_85_1_29 (a := a') (X := fun a' => wpList _ _ _ _ a' _) hs hd h1 h2 ?_
  clear hs hd h1 h2 a'
  intro u0 u2 u3 u4 u5 u6 u7 u8 u9 u10 u11 u12 u13 u14 u15 u16 u17 u18 u19 u20 u21 u22 u23 u24 u25 u26 u27 u28 u30 u31 u32 u33 u34 u35 u36 u37 u38 u39 u40 u41 u42 u43 u44 u45 u46 u47 u48 u49 u50 u51 u52 u53 u54 u55 u56 u57 u58 u59 u60 u61 u62 u63 u64 u65 u66 u67 u68 u69 u70 u71 u72 u73 u74 u75 u76 u77 u78 u79 u80 u81 u82 u83 u84
  simp only [List.drop_succ_cons, List.drop_zero]
  obtain ⟨R, hR⟩ : ∃ R : Act → World → Prop, R = (fun a' w' => W = w' ∧ a'.tmps.size = 85 ∧ a'.defers = [] ∧ a'.tmps[1]? = some (.pointer (some ⟨w.heap.size, 0, none⟩)) ∧ ∃ y : Bool, y = (xB || (kind != 4 && (!be.toList.isEmpty || !sl.toList.isEmpty))) ∧ a'.tmps[44]? = some (.bool y)) := ⟨_, rfl⟩
  have HR := Lib.hid hR
  clear hR
  refine wpList_cut 15 R ?_ ?_
  rotate_left
  · intro K' hK
    simp only [List.take_succ_cons, List.take_zero]
    rcases xB with _ | _
    · by_cases hk : kind = 4
      · have b1 : (kind != 4) = false := by rw [hk]; rfl
        clear hk
        go_wp2_with fail
        rw [HR.out]
        refine ⟨rfl, rfl, rfl, rfl, _, ?_, rfl⟩
        simp [*]
      · have b1 : (kind != 4) = true := by rw [bne_iff_ne]; exact hk
        clear hk
        rcases hq : be.toList.isEmpty with _ | _
        ·
          go_wp2_with fail
          rw [HR.out]
          refine ⟨rfl, rfl, rfl, rfl, _, ?_, rfl⟩
          simp [*]
        ·
          go_wp2_with fail
          rw [HR.out]
          refine ⟨rfl, rfl, rfl, rfl, _, ?_, rfl⟩
          simp [*]
    ·
      go_wp2_with fail
      rw [HR.out]
      refine ⟨rfl, rfl, rfl, rfl, _, ?_, rfl⟩
      simp [*]
  intro a' w' ha
  rw [HR.out] at ha
  clear HR R
  obtain ⟨rfl, hs, hd, h1, xC, h_xC, h2⟩ := ha
  have H_xC := Lib.hid h_xC
  clear h_xC
  refine frame_85_1_44 (a := a') (X := fun a' => wpList _ _ _ _ a' _) hs hd h1 h2 ?_
  clear hs hd h1 h2 a'
  intro u0 u2 u3 u4 u5 u6 u7 u8 u9 u10 u11 u12 u13 u14 u15 u16 u17 u18 u19 u20 u21 u22 u23 u24 u25 u26 u27 u28 u29 u30 u31 u32 u33 u34 u35 u36 u37 u38 u39 u40 u41 u42 u43 u45 u46 u47 u48 u49 u50 u51 u52 u53 u54 u55 u56 u57 u58 u59 u60 u61 u62 u63 u64 u65 u66 u67 u68 u69 u70 u71 u72 u73 u74 u75 u76 u77 u78 u79 u80 u81 u82 u83 u84
  simp only [List.drop_succ_cons, List.drop_zero]
  obtain ⟨R, hR⟩ : ∃ R : Act → World → Prop, R = (fun a' w' => W = w' ∧ a'.tmps.size = 85 ∧ a'.defers = [] ∧ a'.tmps[1]? = some (.pointer (some ⟨w.heap.size, 0, none⟩)) ∧ ∃ y : Bool, y = (xC || (kind != 5 && on)) ∧ a'.tmps[53]? = some (.bool y)) := ⟨_, rfl⟩
  have HR := Lib.hid hR
  clear hR
  refine wpList_cut 9 R ?_ ?_
  rotate_left
  · intro K' hK
    simp only [List.take_succ_cons, List.take_zero]
    rcases xC with _ | _
    · by_cases hk : kind = 5
      · have b1 : (kind != 5) = false := by rw [hk]; rfl
        clear hk
        go_wp2_with fail
        rw [HR.out]
        refine ⟨rfl, rfl, rfl, rfl, _, ?_, rfl⟩
        simp [*]
      · have b1 : (kind != 5) = true := by rw [bne_iff_ne]; exact hk
        clear hk
        go_wp2_with fail
        rw [HR.out]
        refine ⟨rfl, rfl, rfl, rfl, _, ?_, rfl⟩
        simp [*]
    ·
      go_wp2_with fail
      rw [HR.out]
      refine ⟨rfl, rfl, rfl, rfl, _, ?_, rfl⟩
      simp [*]
  intro a' w' ha
  rw [HR.out] at ha
  clear HR R
  obtain ⟨rfl, hs, hd, h1, xD, h_xD, h2⟩ := ha
  have H_xD := Lib.hid h_xD
  clear h_xD
  refine frame_85_1_53 (a := a') (X := fun a' => wpList _ _ _ _ a' _) hs hd h1 h2 ?_
  clear hs hd h1 h2 a'
  intro u0 u2 u3 u4 u5 u6 u7 u8 u9 u10 u11 u12 u13 u14 u15 u16 u17 u18 u19 u20 u21 u22 u23 u24 u25 u26 u27 u28 u29 u30 u31 u32 u33 u34 u35 u36 u37 u38 u39 u40 u41 u42 u43 u44 u45 u46 u47 u48 u49 u50 u51 u52 u54 u55 u56 u57 u58 u59 u60 u61 u62 u63 u64 u65 u66 u67 u68 u69 u70 u71 u72 u73 u74 u75 u76 u77 u78 u79 u80 u81 u82 u83 u84
  simp only [List.drop_succ_cons, List.drop_zero]
  obtain ⟨R, hR⟩ : ∃ R : Act → World → Prop, R = (fun a' w' => W = w' ∧ a'.tmps.size = 85 ∧ a'.defers = [] ∧ a'.tmps[1]? = some (.pointer (some ⟨w.heap.size, 0, none⟩)) ∧ ∃ y : Bool, y = (xD || (kind != 6 && !su.toList.isEmpty)) ∧ a'.tmps[63]? = some (.bool y)) := ⟨_, rfl⟩
  have HR := Lib.hid hR
  clear hR
  refine wpList_cut 10 R ?_ ?_
  rotate_left
  · intro K' hK
    simp only [List.take_succ_cons, List.take_zero]
    rcases xD with _ | _
    · by_cases hk : kind = 6
      · have b1 : (kind != 6) = false := by rw [hk]; rfl
        clear hk
        go_wp2_with fail
        rw [HR.out]
        refine ⟨rfl, rfl, rfl, rfl, _, ?_, rfl⟩
        simp [*]
      · have b1 : (kind != 6) = true := by rw [bne_iff_ne]; exact hk
        clear hk
        go_wp2_with fail
        rw [HR.out]
        refine ⟨rfl, rfl, rfl, rfl, _, ?_, rfl⟩
        simp [*]
    ·
      go_wp2_with fail
      rw [HR.out]
      refine ⟨rfl, rfl, rfl, rfl, _, ?_, rfl⟩
      simp [*]
  intro a' w' ha
  rw [HR.out] at ha
  clear HR R
  obtain ⟨rfl, hs, hd, h1, xE, h_xE, h2⟩ := ha
  have H_xE := Lib.hid h_xE
  clear h_xE
  refine frame_85_1_63 (a := a') (X := fun a' => wpList _ _ _ _ a' _) hs hd h1 h2 ?_
  clear hs hd h1 h2 a'
  intro u0 u2 u3 u4 u5 u6 u7 u8 u9 u10 u11 u12 u13 u14 u15 u16 u17 u18 u19 u20 u21 u22 u23 u24 u25 u26 u27 u28 u29 u30 u31 u32 u33 u34 u35 u36 u37 u38 u39 u40 u41 u42 u43 u44 u45 u46 u47 u48 u49 u50 u51 u52 u53 u54 u55 u56 u57 u58 u59 u60 u61 u62 u64 u65 u66 u67 u68 u69 u70 u71 u72 u73 u74 u75 u76 u77 u78 u79 u80 u81 u82 u83 u84
  simp only [List.drop_succ_cons, List.drop_zero]
  obtain ⟨R, hR⟩ : ∃ R : Act → World → Prop, R = (fun a' w' => W = w' ∧ a'.tmps.size = 85 ∧ a'.defers = [] ∧ a'.tmps[1]? = some (.pointer (some ⟨w.heap.size, 0, none⟩)) ∧ ∃ y : Bool, y = (xE || (kind != 7 && decide (0 < n7))) ∧ a'.tmps[74]? = some (.bool y)) := ⟨_, rfl⟩
  have HR := Lib.hid hR
  clear hR
  refine wpList_cut 11 R ?_ ?_
  rotate_left
  · intro K' hK
    simp only [List.take_succ_cons, List.take_zero]
    rcases xE with _ | _
    · by_cases hk : kind = 7
      · have b1 : (kind != 7) = false := by rw [hk]; rfl
        clear hk
        go_wp2_with fail
        rw [HR.out]
        refine ⟨rfl, rfl, rfl, rfl, _, ?_, rfl⟩
        simp [*]
      · have b1 : (kind != 7) = true := by rw [bne_iff_ne]; exact hk
        clear hk
        go_wp2_with fail
        rw [HR.out]
        refine ⟨rfl, rfl, rfl, rfl, _, ?_, rfl⟩
        simp [*]
    ·
      go_wp2_with fail
      rw [HR.out]
      refine ⟨rfl, rfl, rfl, rfl, _, ?_, rfl⟩
      simp [*]
  intro a' w' ha
  rw [HR.out] at ha
  clear HR R
  obtain ⟨rfl, hs, hd, h1, xF, h_xF, h2⟩ := ha
  have H_xF := Lib.hid h_xF
  clear h_xF
  refine frame_85_1_74 (a := a') (X := fun a' => wpList _ _ _ _ a' _) hs hd h1 h2 ?_
  clear hs hd h1 h2 a'
  intro u0 u2 u3 u4 u5 u6 u7 u8 u9 u10 u11 u12 u13 u14 u15 u16 u17 u18 u19 u20 u21 u22 u23 u24 u25 u26 u27 u28 u29 u30 u31 u32 u33 u34 u35 u36 u37 u38 u39 u40 u41 u42 u43 u44 u45 u46 u47 u48 u49 u50 u51 u52 u53 u54 u55 u56 u57 u58 u59 u60 u61 u62 u63 u64 u65 u66 u67 u68 u69 u70 u71 u72 u73 u75 u76 u77 u78 u79 u80 u81 u82 u83 u84
  simp only [List.drop_succ_cons, List.drop_zero]
  rcases xF with _ | _
  · by_cases hk : kind = 8
    · have b1 : (kind != 8) = false := by rw [hk]; rfl
      clear hk
      go_wp2_with fail
      go_ret
      exact ⟨by rw [← H_xA.out, ← H_xB.out, ← H_xC.out, ← H_xD.out, ← H_xE.out, ← H_xF.out]; simp [*], B0.out⟩
    · have b1 : (kind != 8) = true := by rw [bne_iff_ne]; exact hk
      clear hk
      go_wp2_with fail
      go_ret
      exact ⟨by rw [← H_xA.out, ← H_xB.out, ← H_xC.out, ← H_xD.out, ← H_xE.out, ← H_xF.out]; simp [*], B0.out⟩
  ·
    go_wp2_with fail
    go_ret
    exact ⟨by rw [← H_xA.out, ← H_xB.out, ← H_xC.out, ← H_xD.out, ← H_xE.out, ← H_xF.out]; simp [*], B0.out⟩
end Go.Proofs.YtkllfnaofapfnaaDoor.Prot
