/- Own work, a part of the proof (TyYtibdaenoopclbaaDoor). Conditions: none. -/
import Derived.Test.YtibdaenoopclbaaDoorProg
import Derived.Test.YtibdaenoopclbaaDoorFw21
import Derived.Test.YtibdaenoopclbaaDoorFw31
set_option linter.unusedVariables false
namespace Go.Gh
open Go.Proofs
@[go_sem] theorem ty1:tk Tryd.prog 1=.fn:=by kernel_rfl
@[go_sem] theorem tz1:tsz Tryd.prog 1=some 1:=by kernel_rfl
@[go_sem] theorem tb1:tby Tryd.prog 1=some 8:=by kernel_rfl
@[go_sem] theorem to1:tzero Tryd.prog 1=some AV.nilfn:=by kernel_rfl
@[go_sem] theorem ty2:tk Tryd.prog 2=.int .i64:=by kernel_rfl
@[go_sem] theorem tz2:tsz Tryd.prog 2=some 1:=by kernel_rfl
@[go_sem] theorem tb2:tby Tryd.prog 2=some 8:=by kernel_rfl
@[go_sem] theorem to2:tzero Tryd.prog 2=some (AV.int .i64 (0)):=by kernel_rfl
@[go_sem] theorem ty3:tk Tryd.prog 3=.int .i64:=by kernel_rfl
@[go_sem] theorem tz3:tsz Tryd.prog 3=some 1:=by kernel_rfl
@[go_sem] theorem tb3:tby Tryd.prog 3=some 8:=by kernel_rfl
@[go_sem] theorem to3:tzero Tryd.prog 3=some (AV.int .i64 (0)):=by kernel_rfl
@[go_sem] theorem ty4:tk Tryd.prog 4=.bool:=by kernel_rfl
@[go_sem] theorem tz4:tsz Tryd.prog 4=some 1:=by kernel_rfl
@[go_sem] theorem tb4:tby Tryd.prog 4=some 1:=by kernel_rfl
@[go_sem] theorem to4:tzero Tryd.prog 4=some (AV.bool false):=by kernel_rfl
@[go_sem] theorem ty5:tk Tryd.prog 5=.int .u8:=by kernel_rfl
@[go_sem] theorem tz5:tsz Tryd.prog 5=some 1:=by kernel_rfl
@[go_sem] theorem tb5:tby Tryd.prog 5=some 1:=by kernel_rfl
@[go_sem] theorem to5:tzero Tryd.prog 5=some (AV.int .u8 (0)):=by kernel_rfl
@[go_sem] theorem ty6:tk Tryd.prog 6=.int .u8:=by kernel_rfl
@[go_sem] theorem tz6:tsz Tryd.prog 6=some 1:=by kernel_rfl
@[go_sem] theorem tb6:tby Tryd.prog 6=some 1:=by kernel_rfl
@[go_sem] theorem to6:tzero Tryd.prog 6=some (AV.int .u8 (0)):=by kernel_rfl
@[go_sem] theorem ty7:tk Tryd.prog 7=.st [(0,2),(1,3),(2,4),(3,6)]:=by kernel_rfl
@[go_sem] theorem tz7:tsz Tryd.prog 7=some 4:=by kernel_rfl
@[go_sem] theorem tb7:tby Tryd.prog 7=some 24:=by kernel_rfl
@[go_sem] theorem to7:tzero Tryd.prog 7=some (AV.agg [AV.int .i64 (0),AV.int .i64 (0),AV.bool false,AV.int .u8 (0)]):=by kernel_rfl
@[go_sem] theorem ty8:tk Tryd.prog 8=.st [(0,2),(1,3),(2,4),(3,6)]:=by kernel_rfl
@[go_sem] theorem tz8:tsz Tryd.prog 8=some 4:=by kernel_rfl
@[go_sem] theorem tb8:tby Tryd.prog 8=some 24:=by kernel_rfl
@[go_sem] theorem to8:tzero Tryd.prog 8=some (AV.agg [AV.int .i64 (0),AV.int .i64 (0),AV.bool false,AV.int .u8 (0)]):=by kernel_rfl
@[go_sem] theorem ty9:tk Tryd.prog 9=.str:=by kernel_rfl
@[go_sem] theorem tz9:tsz Tryd.prog 9=some 1:=by kernel_rfl
@[go_sem] theorem tb9:tby Tryd.prog 9=some 16:=by kernel_rfl
@[go_sem] theorem to9:tzero Tryd.prog 9=some (AV.str []):=by kernel_rfl
@[go_sem] theorem ty10:tk Tryd.prog 10=.str:=by kernel_rfl
@[go_sem] theorem tz10:tsz Tryd.prog 10=some 1:=by kernel_rfl
@[go_sem] theorem tb10:tby Tryd.prog 10=some 16:=by kernel_rfl
@[go_sem] theorem to10:tzero Tryd.prog 10=some (AV.str []):=by kernel_rfl
@[go_sem] theorem ty11:tk Tryd.prog 11=.str:=by kernel_rfl
@[go_sem] theorem tz11:tsz Tryd.prog 11=some 1:=by kernel_rfl
@[go_sem] theorem tb11:tby Tryd.prog 11=some 16:=by kernel_rfl
@[go_sem] theorem to11:tzero Tryd.prog 11=some (AV.str []):=by kernel_rfl
@[go_sem] theorem ty12:tk Tryd.prog 12=.int .u64:=by kernel_rfl
@[go_sem] theorem tz12:tsz Tryd.prog 12=some 1:=by kernel_rfl
@[go_sem] theorem tb12:tby Tryd.prog 12=some 8:=by kernel_rfl
@[go_sem] theorem to12:tzero Tryd.prog 12=some (AV.int .u64 (0)):=by kernel_rfl
@[go_sem] theorem ty13:tk Tryd.prog 13=.st [(0,9),(1,12)]:=by kernel_rfl
@[go_sem] theorem tz13:tsz Tryd.prog 13=some 2:=by kernel_rfl
@[go_sem] theorem tb13:tby Tryd.prog 13=some 24:=by kernel_rfl
@[go_sem] theorem to13:tzero Tryd.prog 13=some (AV.agg [AV.str [],AV.int .u64 (0)]):=by kernel_rfl
@[go_sem] theorem ty14:tk Tryd.prog 14=.st [(0,9),(1,12)]:=by kernel_rfl
@[go_sem] theorem tz14:tsz Tryd.prog 14=some 2:=by kernel_rfl
@[go_sem] theorem tb14:tby Tryd.prog 14=some 24:=by kernel_rfl
@[go_sem] theorem to14:tzero Tryd.prog 14=some (AV.agg [AV.str [],AV.int .u64 (0)]):=by kernel_rfl
@[go_sem] theorem ty15:tk Tryd.prog 15=.ptr 160:=by kernel_rfl
@[go_sem] theorem tz15:tsz Tryd.prog 15=some 1:=by kernel_rfl
@[go_sem] theorem tb15:tby Tryd.prog 15=some 8:=by kernel_rfl
@[go_sem] theorem to15:tzero Tryd.prog 15=some AV.nilptr:=by kernel_rfl
@[go_sem] theorem ty16:tk Tryd.prog 16=.ptr 163:=by kernel_rfl
@[go_sem] theorem tz16:tsz Tryd.prog 16=some 1:=by kernel_rfl
@[go_sem] theorem tb16:tby Tryd.prog 16=some 8:=by kernel_rfl
@[go_sem] theorem to16:tzero Tryd.prog 16=some AV.nilptr:=by kernel_rfl
@[go_sem] theorem ty17:tk Tryd.prog 17=.ptr 171:=by kernel_rfl
@[go_sem] theorem tz17:tsz Tryd.prog 17=some 1:=by kernel_rfl
@[go_sem] theorem tb17:tby Tryd.prog 17=some 8:=by kernel_rfl
@[go_sem] theorem to17:tzero Tryd.prog 17=some AV.nilptr:=by kernel_rfl
@[go_sem] theorem ty18:tk Tryd.prog 18=.st [(0,17)]:=by kernel_rfl
@[go_sem] theorem tz18:tsz Tryd.prog 18=some 1:=by kernel_rfl
@[go_sem] theorem tb18:tby Tryd.prog 18=some 8:=by kernel_rfl
@[go_sem] theorem to18:tzero Tryd.prog 18=some (AV.agg [AV.nilptr]):=by kernel_rfl
@[go_sem] theorem ty19:tk Tryd.prog 19=.st [(0,17)]:=by kernel_rfl
@[go_sem] theorem tz19:tsz Tryd.prog 19=some 1:=by kernel_rfl
@[go_sem] theorem tb19:tby Tryd.prog 19=some 8:=by kernel_rfl
@[go_sem] theorem to19:tzero Tryd.prog 19=some (AV.agg [AV.nilptr]):=by kernel_rfl
@[go_sem] theorem ty20:tk Tryd.prog 20=.ifc:=by kernel_rfl
@[go_sem] theorem tz20:tsz Tryd.prog 20=some 1:=by kernel_rfl
@[go_sem] theorem tb20:tby Tryd.prog 20=some 16:=by kernel_rfl
@[go_sem] theorem to20:tzero Tryd.prog 20=some AV.nilifc:=by kernel_rfl
@[go_sem] theorem ty21:tk Tryd.prog 21=.int .i32:=by kernel_rfl
@[go_sem] theorem tz21:tsz Tryd.prog 21=some 1:=by kernel_rfl
@[go_sem] theorem tb21:tby Tryd.prog 21=some 4:=by kernel_rfl
@[go_sem] theorem to21:tzero Tryd.prog 21=some (AV.int .i32 (0)):=by kernel_rfl
@[go_sem] theorem ty22:tk Tryd.prog 22=.sl 25:=by kernel_rfl
@[go_sem] theorem tz22:tsz Tryd.prog 22=some 1:=by kernel_rfl
@[go_sem] theorem tb22:tby Tryd.prog 22=some 24:=by kernel_rfl
@[go_sem] theorem to22:tzero Tryd.prog 22=some AV.nilsl:=by kernel_rfl
@[go_sem] theorem ty23:tk Tryd.prog 23=.sl 25:=by kernel_rfl
@[go_sem] theorem tz23:tsz Tryd.prog 23=some 1:=by kernel_rfl
@[go_sem] theorem tb23:tby Tryd.prog 23=some 24:=by kernel_rfl
@[go_sem] theorem to23:tzero Tryd.prog 23=some AV.nilsl:=by kernel_rfl
@[go_sem] theorem ty24:tk Tryd.prog 24=.sl 30:=by kernel_rfl
@[go_sem] theorem tz24:tsz Tryd.prog 24=some 1:=by kernel_rfl
@[go_sem] theorem tb24:tby Tryd.prog 24=some 24:=by kernel_rfl
@[go_sem] theorem to24:tzero Tryd.prog 24=some AV.nilsl:=by kernel_rfl
@[go_sem] theorem ty25:tk Tryd.prog 25=.sl 30:=by kernel_rfl
@[go_sem] theorem tz25:tsz Tryd.prog 25=some 1:=by kernel_rfl
@[go_sem] theorem tb25:tby Tryd.prog 25=some 24:=by kernel_rfl
@[go_sem] theorem to25:tzero Tryd.prog 25=some AV.nilsl:=by kernel_rfl
@[go_sem] theorem ty26:tk Tryd.prog 26=.st [(0,23),(1,25),(2,25)]:=by kernel_rfl
@[go_sem] theorem tz26:tsz Tryd.prog 26=some 3:=by kernel_rfl
@[go_sem] theorem tb26:tby Tryd.prog 26=some 72:=by kernel_rfl
@[go_sem] theorem to26:tzero Tryd.prog 26=some (AV.agg [AV.nilsl,AV.nilsl,AV.nilsl]):=by kernel_rfl
@[go_sem] theorem ty27:tk Tryd.prog 27=.st [(0,23),(1,25),(2,25)]:=by kernel_rfl
@[go_sem] theorem tz27:tsz Tryd.prog 27=some 3:=by kernel_rfl
@[go_sem] theorem tb27:tby Tryd.prog 27=some 72:=by kernel_rfl
@[go_sem] theorem to27:tzero Tryd.prog 27=some (AV.agg [AV.nilsl,AV.nilsl,AV.nilsl]):=by kernel_rfl
@[go_sem] theorem ty28:tk Tryd.prog 28=.fn:=by kernel_rfl
@[go_sem] theorem tz28:tsz Tryd.prog 28=some 1:=by kernel_rfl
@[go_sem] theorem tb28:tby Tryd.prog 28=some 8:=by kernel_rfl
@[go_sem] theorem to28:tzero Tryd.prog 28=some AV.nilfn:=by kernel_rfl
@[go_sem] theorem ty29:tk Tryd.prog 29=.fn:=by kernel_rfl
@[go_sem] theorem tz29:tsz Tryd.prog 29=some 1:=by kernel_rfl
@[go_sem] theorem tb29:tby Tryd.prog 29=some 8:=by kernel_rfl
@[go_sem] theorem to29:tzero Tryd.prog 29=some AV.nilfn:=by kernel_rfl
@[go_sem] theorem ty30:tk Tryd.prog 30=.str:=by kernel_rfl
@[go_sem] theorem tz30:tsz Tryd.prog 30=some 1:=by kernel_rfl
@[go_sem] theorem tb30:tby Tryd.prog 30=some 16:=by kernel_rfl
@[go_sem] theorem to30:tzero Tryd.prog 30=some (AV.str []):=by kernel_rfl
@[go_sem] theorem ty31:tk Tryd.prog 31=.st [(0,3),(1,25),(2,25),(3,25),(4,30)]:=by kernel_rfl
@[go_sem] theorem tz31:tsz Tryd.prog 31=some 5:=by kernel_rfl
@[go_sem] theorem tb31:tby Tryd.prog 31=some 96:=by kernel_rfl
@[go_sem] theorem to31:tzero Tryd.prog 31=some (AV.agg [AV.int .i64 (0),AV.nilsl,AV.nilsl,AV.nilsl,AV.str []]):=by kernel_rfl
@[go_sem] theorem ty32:tk Tryd.prog 32=.st [(0,3),(1,25),(2,25),(3,25),(4,30)]:=by kernel_rfl
@[go_sem] theorem tz32:tsz Tryd.prog 32=some 5:=by kernel_rfl
@[go_sem] theorem tb32:tby Tryd.prog 32=some 96:=by kernel_rfl
@[go_sem] theorem to32:tzero Tryd.prog 32=some (AV.agg [AV.int .i64 (0),AV.nilsl,AV.nilsl,AV.nilsl,AV.str []]):=by kernel_rfl
@[go_sem] theorem ty33:tk Tryd.prog 33=.int .i64:=by kernel_rfl
@[go_sem] theorem tz33:tsz Tryd.prog 33=some 1:=by kernel_rfl
@[go_sem] theorem tb33:tby Tryd.prog 33=some 8:=by kernel_rfl
@[go_sem] theorem to33:tzero Tryd.prog 33=some (AV.int .i64 (0)):=by kernel_rfl
@[go_sem] theorem ty35:tk Tryd.prog 35=.fn:=by kernel_rfl
@[go_sem] theorem tz35:tsz Tryd.prog 35=some 1:=by kernel_rfl
@[go_sem] theorem tb35:tby Tryd.prog 35=some 8:=by kernel_rfl
@[go_sem] theorem to35:tzero Tryd.prog 35=some AV.nilfn:=by kernel_rfl
@[go_sem] theorem ty36:tk Tryd.prog 36=.fn:=by kernel_rfl
@[go_sem] theorem tz36:tsz Tryd.prog 36=some 1:=by kernel_rfl
@[go_sem] theorem tb36:tby Tryd.prog 36=some 8:=by kernel_rfl
@[go_sem] theorem to36:tzero Tryd.prog 36=some AV.nilfn:=by kernel_rfl
@[go_sem] theorem ty37:tk Tryd.prog 37=.fn:=by kernel_rfl
@[go_sem] theorem tz37:tsz Tryd.prog 37=some 1:=by kernel_rfl
@[go_sem] theorem tb37:tby Tryd.prog 37=some 8:=by kernel_rfl
@[go_sem] theorem to37:tzero Tryd.prog 37=some AV.nilfn:=by kernel_rfl
@[go_sem] theorem ty38:tk Tryd.prog 38=.fn:=by kernel_rfl
@[go_sem] theorem tz38:tsz Tryd.prog 38=some 1:=by kernel_rfl
@[go_sem] theorem tb38:tby Tryd.prog 38=some 8:=by kernel_rfl
@[go_sem] theorem to38:tzero Tryd.prog 38=some AV.nilfn:=by kernel_rfl
@[go_sem] theorem ty39:tk Tryd.prog 39=.fn:=by kernel_rfl
@[go_sem] theorem tz39:tsz Tryd.prog 39=some 1:=by kernel_rfl
@[go_sem] theorem tb39:tby Tryd.prog 39=some 8:=by kernel_rfl
@[go_sem] theorem to39:tzero Tryd.prog 39=some AV.nilfn:=by kernel_rfl
@[go_sem] theorem ty41:tk Tryd.prog 41=.fn:=by kernel_rfl
@[go_sem] theorem tz41:tsz Tryd.prog 41=some 1:=by kernel_rfl
@[go_sem] theorem tb41:tby Tryd.prog 41=some 8:=by kernel_rfl
@[go_sem] theorem to41:tzero Tryd.prog 41=some AV.nilfn:=by kernel_rfl
@[go_sem] theorem ty42:tk Tryd.prog 42=.arr 2 25:=by kernel_rfl
@[go_sem] theorem tz42:tsz Tryd.prog 42=some 2:=by kernel_rfl
@[go_sem] theorem tb42:tby Tryd.prog 42=some 48:=by kernel_rfl
@[go_sem] theorem to42:tzero Tryd.prog 42=some (AV.agg [AV.nilsl,AV.nilsl]):=by kernel_rfl
@[go_sem] theorem ty43:tk Tryd.prog 43=.fn:=by kernel_rfl
@[go_sem] theorem tz43:tsz Tryd.prog 43=some 1:=by kernel_rfl
@[go_sem] theorem tb43:tby Tryd.prog 43=some 8:=by kernel_rfl
@[go_sem] theorem to43:tzero Tryd.prog 43=some AV.nilfn:=by kernel_rfl
@[go_sem] theorem ty44:tk Tryd.prog 44=.fn:=by kernel_rfl
@[go_sem] theorem tz44:tsz Tryd.prog 44=some 1:=by kernel_rfl
@[go_sem] theorem tb44:tby Tryd.prog 44=some 8:=by kernel_rfl
@[go_sem] theorem to44:tzero Tryd.prog 44=some AV.nilfn:=by kernel_rfl
@[go_sem] theorem ty46:tk Tryd.prog 46=.fn:=by kernel_rfl
@[go_sem] theorem tz46:tsz Tryd.prog 46=some 1:=by kernel_rfl
@[go_sem] theorem tb46:tby Tryd.prog 46=some 8:=by kernel_rfl
@[go_sem] theorem to46:tzero Tryd.prog 46=some AV.nilfn:=by kernel_rfl
@[go_sem] theorem ty47:tk Tryd.prog 47=.fn:=by kernel_rfl
@[go_sem] theorem tz47:tsz Tryd.prog 47=some 1:=by kernel_rfl
@[go_sem] theorem tb47:tby Tryd.prog 47=some 8:=by kernel_rfl
@[go_sem] theorem to47:tzero Tryd.prog 47=some AV.nilfn:=by kernel_rfl
@[go_sem] theorem ty49:tk Tryd.prog 49=.fn:=by kernel_rfl
@[go_sem] theorem tz49:tsz Tryd.prog 49=some 1:=by kernel_rfl
@[go_sem] theorem tb49:tby Tryd.prog 49=some 8:=by kernel_rfl
@[go_sem] theorem to49:tzero Tryd.prog 49=some AV.nilfn:=by kernel_rfl
@[go_sem] theorem ty50:tk Tryd.prog 50=.fn:=by kernel_rfl
@[go_sem] theorem tz50:tsz Tryd.prog 50=some 1:=by kernel_rfl
@[go_sem] theorem tb50:tby Tryd.prog 50=some 8:=by kernel_rfl
@[go_sem] theorem to50:tzero Tryd.prog 50=some AV.nilfn:=by kernel_rfl
@[go_sem] theorem ty51:tk Tryd.prog 51=.fn:=by kernel_rfl
@[go_sem] theorem tz51:tsz Tryd.prog 51=some 1:=by kernel_rfl
@[go_sem] theorem tb51:tby Tryd.prog 51=some 8:=by kernel_rfl
@[go_sem] theorem to51:tzero Tryd.prog 51=some AV.nilfn:=by kernel_rfl
@[go_sem] theorem ty52:tk Tryd.prog 52=.fn:=by kernel_rfl
@[go_sem] theorem tz52:tsz Tryd.prog 52=some 1:=by kernel_rfl
@[go_sem] theorem tb52:tby Tryd.prog 52=some 8:=by kernel_rfl
@[go_sem] theorem to52:tzero Tryd.prog 52=some AV.nilfn:=by kernel_rfl
@[go_sem] theorem ty54:tk Tryd.prog 54=.fn:=by kernel_rfl
@[go_sem] theorem tz54:tsz Tryd.prog 54=some 1:=by kernel_rfl
@[go_sem] theorem tb54:tby Tryd.prog 54=some 8:=by kernel_rfl
@[go_sem] theorem to54:tzero Tryd.prog 54=some AV.nilfn:=by kernel_rfl
@[go_sem] theorem ty55:tk Tryd.prog 55=.fn:=by kernel_rfl
@[go_sem] theorem tz55:tsz Tryd.prog 55=some 1:=by kernel_rfl
@[go_sem] theorem tb55:tby Tryd.prog 55=some 8:=by kernel_rfl
@[go_sem] theorem to55:tzero Tryd.prog 55=some AV.nilfn:=by kernel_rfl
@[go_sem] theorem ty57:tk Tryd.prog 57=.fn:=by kernel_rfl
@[go_sem] theorem tz57:tsz Tryd.prog 57=some 1:=by kernel_rfl
@[go_sem] theorem tb57:tby Tryd.prog 57=some 8:=by kernel_rfl
@[go_sem] theorem to57:tzero Tryd.prog 57=some AV.nilfn:=by kernel_rfl
@[go_sem] theorem ty58:tk Tryd.prog 58=.fn:=by kernel_rfl
@[go_sem] theorem tz58:tsz Tryd.prog 58=some 1:=by kernel_rfl
@[go_sem] theorem tb58:tby Tryd.prog 58=some 8:=by kernel_rfl
@[go_sem] theorem to58:tzero Tryd.prog 58=some AV.nilfn:=by kernel_rfl
@[go_sem] theorem ty59:tk Tryd.prog 59=.fn:=by kernel_rfl
@[go_sem] theorem tz59:tsz Tryd.prog 59=some 1:=by kernel_rfl
@[go_sem] theorem tb59:tby Tryd.prog 59=some 8:=by kernel_rfl
@[go_sem] theorem to59:tzero Tryd.prog 59=some AV.nilfn:=by kernel_rfl
@[go_sem] theorem ty60:tk Tryd.prog 60=.fn:=by kernel_rfl
@[go_sem] theorem tz60:tsz Tryd.prog 60=some 1:=by kernel_rfl
@[go_sem] theorem tb60:tby Tryd.prog 60=some 8:=by kernel_rfl
@[go_sem] theorem to60:tzero Tryd.prog 60=some AV.nilfn:=by kernel_rfl
@[go_sem] theorem ty61:tk Tryd.prog 61=.sl 23:=by kernel_rfl
@[go_sem] theorem tz61:tsz Tryd.prog 61=some 1:=by kernel_rfl
@[go_sem] theorem tb61:tby Tryd.prog 61=some 24:=by kernel_rfl
@[go_sem] theorem to61:tzero Tryd.prog 61=some AV.nilsl:=by kernel_rfl
@[go_sem] theorem ty62:tk Tryd.prog 62=.fn:=by kernel_rfl
@[go_sem] theorem tz62:tsz Tryd.prog 62=some 1:=by kernel_rfl
@[go_sem] theorem tb62:tby Tryd.prog 62=some 8:=by kernel_rfl
@[go_sem] theorem to62:tzero Tryd.prog 62=some AV.nilfn:=by kernel_rfl
@[go_sem] theorem ty63:tk Tryd.prog 63=.fn:=by kernel_rfl
@[go_sem] theorem tz63:tsz Tryd.prog 63=some 1:=by kernel_rfl
@[go_sem] theorem tb63:tby Tryd.prog 63=some 8:=by kernel_rfl
@[go_sem] theorem to63:tzero Tryd.prog 63=some AV.nilfn:=by kernel_rfl
@[go_sem] theorem ty64:tk Tryd.prog 64=.fn:=by kernel_rfl
@[go_sem] theorem tz64:tsz Tryd.prog 64=some 1:=by kernel_rfl
@[go_sem] theorem tb64:tby Tryd.prog 64=some 8:=by kernel_rfl
@[go_sem] theorem to64:tzero Tryd.prog 64=some AV.nilfn:=by kernel_rfl
@[go_sem] theorem ty65:tk Tryd.prog 65=.fn:=by kernel_rfl
@[go_sem] theorem tz65:tsz Tryd.prog 65=some 1:=by kernel_rfl
@[go_sem] theorem tb65:tby Tryd.prog 65=some 8:=by kernel_rfl
@[go_sem] theorem to65:tzero Tryd.prog 65=some AV.nilfn:=by kernel_rfl
@[go_sem] theorem ty66:tk Tryd.prog 66=.ptr 74:=by kernel_rfl
@[go_sem] theorem tz66:tsz Tryd.prog 66=some 1:=by kernel_rfl
@[go_sem] theorem tb66:tby Tryd.prog 66=some 8:=by kernel_rfl
@[go_sem] theorem to66:tzero Tryd.prog 66=some AV.nilptr:=by kernel_rfl
@[go_sem] theorem ty67:tk Tryd.prog 67=.fn:=by kernel_rfl
@[go_sem] theorem tz67:tsz Tryd.prog 67=some 1:=by kernel_rfl
@[go_sem] theorem tb67:tby Tryd.prog 67=some 8:=by kernel_rfl
@[go_sem] theorem to67:tzero Tryd.prog 67=some AV.nilfn:=by kernel_rfl
@[go_sem] theorem ty68:tk Tryd.prog 68=.fn:=by kernel_rfl
@[go_sem] theorem tz68:tsz Tryd.prog 68=some 1:=by kernel_rfl
@[go_sem] theorem tb68:tby Tryd.prog 68=some 8:=by kernel_rfl
@[go_sem] theorem to68:tzero Tryd.prog 68=some AV.nilfn:=by kernel_rfl
@[go_sem] theorem ty69:tk Tryd.prog 69=.sl 78:=by kernel_rfl
@[go_sem] theorem tz69:tsz Tryd.prog 69=some 1:=by kernel_rfl
@[go_sem] theorem tb69:tby Tryd.prog 69=some 24:=by kernel_rfl
@[go_sem] theorem to69:tzero Tryd.prog 69=some AV.nilsl:=by kernel_rfl
@[go_sem] theorem ty70:tk Tryd.prog 70=.sl 69:=by kernel_rfl
@[go_sem] theorem tz70:tsz Tryd.prog 70=some 1:=by kernel_rfl
@[go_sem] theorem tb70:tby Tryd.prog 70=some 24:=by kernel_rfl
@[go_sem] theorem to70:tzero Tryd.prog 70=some AV.nilsl:=by kernel_rfl
@[go_sem] theorem ty71:tk Tryd.prog 71=.sl 69:=by kernel_rfl
@[go_sem] theorem tz71:tsz Tryd.prog 71=some 1:=by kernel_rfl
@[go_sem] theorem tb71:tby Tryd.prog 71=some 24:=by kernel_rfl
@[go_sem] theorem to71:tzero Tryd.prog 71=some AV.nilsl:=by kernel_rfl
@[go_sem] theorem ty72:tk Tryd.prog 72=.sl 3:=by kernel_rfl
@[go_sem] theorem tz72:tsz Tryd.prog 72=some 1:=by kernel_rfl
@[go_sem] theorem tb72:tby Tryd.prog 72=some 24:=by kernel_rfl
@[go_sem] theorem to72:tzero Tryd.prog 72=some AV.nilsl:=by kernel_rfl
@[go_sem] theorem ty73:tk Tryd.prog 73=.st [(0,71),(1,72),(2,3),(3,3)]:=by kernel_rfl
@[go_sem] theorem tz73:tsz Tryd.prog 73=some 4:=by kernel_rfl
@[go_sem] theorem tb73:tby Tryd.prog 73=some 64:=by kernel_rfl
@[go_sem] theorem to73:tzero Tryd.prog 73=some (AV.agg [AV.nilsl,AV.nilsl,AV.int .i64 (0),AV.int .i64 (0)]):=by kernel_rfl
@[go_sem] theorem ty74:tk Tryd.prog 74=.st [(0,71),(1,72),(2,3),(3,3)]:=by kernel_rfl
@[go_sem] theorem tz74:tsz Tryd.prog 74=some 4:=by kernel_rfl
@[go_sem] theorem tb74:tby Tryd.prog 74=some 64:=by kernel_rfl
@[go_sem] theorem to74:tzero Tryd.prog 74=some (AV.agg [AV.nilsl,AV.nilsl,AV.int .i64 (0),AV.int .i64 (0)]):=by kernel_rfl
@[go_sem] theorem ty75:tk Tryd.prog 75=.sl 127:=by kernel_rfl
@[go_sem] theorem tz75:tsz Tryd.prog 75=some 1:=by kernel_rfl
@[go_sem] theorem tb75:tby Tryd.prog 75=some 24:=by kernel_rfl
@[go_sem] theorem to75:tzero Tryd.prog 75=some AV.nilsl:=by kernel_rfl
@[go_sem] theorem ty76:tk Tryd.prog 76=.sl 127:=by kernel_rfl
@[go_sem] theorem tz76:tsz Tryd.prog 76=some 1:=by kernel_rfl
@[go_sem] theorem tb76:tby Tryd.prog 76=some 24:=by kernel_rfl
@[go_sem] theorem to76:tzero Tryd.prog 76=some AV.nilsl:=by kernel_rfl
@[go_sem] theorem ty77:tk Tryd.prog 77=.st [(0,4),(1,76),(2,76)]:=by kernel_rfl
@[go_sem] theorem tz77:tsz Tryd.prog 77=some 3:=by kernel_rfl
@[go_sem] theorem tb77:tby Tryd.prog 77=some 56:=by kernel_rfl
@[go_sem] theorem to77:tzero Tryd.prog 77=some (AV.agg [AV.bool false,AV.nilsl,AV.nilsl]):=by kernel_rfl
@[go_sem] theorem ty78:tk Tryd.prog 78=.st [(0,4),(1,76),(2,76)]:=by kernel_rfl
@[go_sem] theorem tz78:tsz Tryd.prog 78=some 3:=by kernel_rfl
@[go_sem] theorem tb78:tby Tryd.prog 78=some 56:=by kernel_rfl
@[go_sem] theorem to78:tzero Tryd.prog 78=some (AV.agg [AV.bool false,AV.nilsl,AV.nilsl]):=by kernel_rfl
@[go_sem] theorem ty79:tk Tryd.prog 79=.fn:=by kernel_rfl
@[go_sem] theorem tz79:tsz Tryd.prog 79=some 1:=by kernel_rfl
@[go_sem] theorem tb79:tby Tryd.prog 79=some 8:=by kernel_rfl
@[go_sem] theorem to79:tzero Tryd.prog 79=some AV.nilfn:=by kernel_rfl
@[go_sem] theorem ty80:tk Tryd.prog 80=.fn:=by kernel_rfl
@[go_sem] theorem tz80:tsz Tryd.prog 80=some 1:=by kernel_rfl
@[go_sem] theorem tb80:tby Tryd.prog 80=some 8:=by kernel_rfl
@[go_sem] theorem to80:tzero Tryd.prog 80=some AV.nilfn:=by kernel_rfl
@[go_sem] theorem ty81:tk Tryd.prog 81=.fn:=by kernel_rfl
@[go_sem] theorem tz81:tsz Tryd.prog 81=some 1:=by kernel_rfl
@[go_sem] theorem tb81:tby Tryd.prog 81=some 8:=by kernel_rfl
@[go_sem] theorem to81:tzero Tryd.prog 81=some AV.nilfn:=by kernel_rfl
@[go_sem] theorem ty82:tk Tryd.prog 82=.fn:=by kernel_rfl
@[go_sem] theorem tz82:tsz Tryd.prog 82=some 1:=by kernel_rfl
@[go_sem] theorem tb82:tby Tryd.prog 82=some 8:=by kernel_rfl
@[go_sem] theorem to82:tzero Tryd.prog 82=some AV.nilfn:=by kernel_rfl
@[go_sem] theorem ty83:tk Tryd.prog 83=.fn:=by kernel_rfl
@[go_sem] theorem tz83:tsz Tryd.prog 83=some 1:=by kernel_rfl
@[go_sem] theorem tb83:tby Tryd.prog 83=some 8:=by kernel_rfl
@[go_sem] theorem to83:tzero Tryd.prog 83=some AV.nilfn:=by kernel_rfl
@[go_sem] theorem ty84:tk Tryd.prog 84=.fn:=by kernel_rfl
@[go_sem] theorem tz84:tsz Tryd.prog 84=some 1:=by kernel_rfl
@[go_sem] theorem tb84:tby Tryd.prog 84=some 8:=by kernel_rfl
@[go_sem] theorem to84:tzero Tryd.prog 84=some AV.nilfn:=by kernel_rfl
@[go_sem] theorem ty85:tk Tryd.prog 85=.fn:=by kernel_rfl
@[go_sem] theorem tz85:tsz Tryd.prog 85=some 1:=by kernel_rfl
@[go_sem] theorem tb85:tby Tryd.prog 85=some 8:=by kernel_rfl
@[go_sem] theorem to85:tzero Tryd.prog 85=some AV.nilfn:=by kernel_rfl
@[go_sem] theorem ty86:tk Tryd.prog 86=.fn:=by kernel_rfl
@[go_sem] theorem tz86:tsz Tryd.prog 86=some 1:=by kernel_rfl
@[go_sem] theorem tb86:tby Tryd.prog 86=some 8:=by kernel_rfl
@[go_sem] theorem to86:tzero Tryd.prog 86=some AV.nilfn:=by kernel_rfl
@[go_sem] theorem ty87:tk Tryd.prog 87=.fn:=by kernel_rfl
@[go_sem] theorem tz87:tsz Tryd.prog 87=some 1:=by kernel_rfl
@[go_sem] theorem tb87:tby Tryd.prog 87=some 8:=by kernel_rfl
@[go_sem] theorem to87:tzero Tryd.prog 87=some AV.nilfn:=by kernel_rfl
@[go_sem] theorem ty88:tk Tryd.prog 88=.fn:=by kernel_rfl
@[go_sem] theorem tz88:tsz Tryd.prog 88=some 1:=by kernel_rfl
@[go_sem] theorem tb88:tby Tryd.prog 88=some 8:=by kernel_rfl
@[go_sem] theorem to88:tzero Tryd.prog 88=some AV.nilfn:=by kernel_rfl
@[go_sem] theorem ty89:tk Tryd.prog 89=.fn:=by kernel_rfl
@[go_sem] theorem tz89:tsz Tryd.prog 89=some 1:=by kernel_rfl
@[go_sem] theorem tb89:tby Tryd.prog 89=some 8:=by kernel_rfl
@[go_sem] theorem to89:tzero Tryd.prog 89=some AV.nilfn:=by kernel_rfl
@[go_sem] theorem ty90:tk Tryd.prog 90=.fn:=by kernel_rfl
@[go_sem] theorem tz90:tsz Tryd.prog 90=some 1:=by kernel_rfl
@[go_sem] theorem tb90:tby Tryd.prog 90=some 8:=by kernel_rfl
@[go_sem] theorem to90:tzero Tryd.prog 90=some AV.nilfn:=by kernel_rfl
@[go_sem] theorem ty91:tk Tryd.prog 91=.fn:=by kernel_rfl
@[go_sem] theorem tz91:tsz Tryd.prog 91=some 1:=by kernel_rfl
@[go_sem] theorem tb91:tby Tryd.prog 91=some 8:=by kernel_rfl
@[go_sem] theorem to91:tzero Tryd.prog 91=some AV.nilfn:=by kernel_rfl
@[go_sem] theorem ty92:tk Tryd.prog 92=.fn:=by kernel_rfl
@[go_sem] theorem tz92:tsz Tryd.prog 92=some 1:=by kernel_rfl
@[go_sem] theorem tb92:tby Tryd.prog 92=some 8:=by kernel_rfl
@[go_sem] theorem to92:tzero Tryd.prog 92=some AV.nilfn:=by kernel_rfl
@[go_sem] theorem ty93:tk Tryd.prog 93=.fn:=by kernel_rfl
@[go_sem] theorem tz93:tsz Tryd.prog 93=some 1:=by kernel_rfl
@[go_sem] theorem tb93:tby Tryd.prog 93=some 8:=by kernel_rfl
@[go_sem] theorem to93:tzero Tryd.prog 93=some AV.nilfn:=by kernel_rfl
@[go_sem] theorem ty94:tk Tryd.prog 94=.fn:=by kernel_rfl
@[go_sem] theorem tz94:tsz Tryd.prog 94=some 1:=by kernel_rfl
@[go_sem] theorem tb94:tby Tryd.prog 94=some 8:=by kernel_rfl
@[go_sem] theorem to94:tzero Tryd.prog 94=some AV.nilfn:=by kernel_rfl
@[go_sem] theorem ty95:tk Tryd.prog 95=.int .u64:=by kernel_rfl
@[go_sem] theorem tz95:tsz Tryd.prog 95=some 1:=by kernel_rfl
@[go_sem] theorem tb95:tby Tryd.prog 95=some 8:=by kernel_rfl
@[go_sem] theorem to95:tzero Tryd.prog 95=some (AV.int .u64 (0)):=by kernel_rfl
@[go_sem] theorem ty97:tk Tryd.prog 97=.fn:=by kernel_rfl
@[go_sem] theorem tz97:tsz Tryd.prog 97=some 1:=by kernel_rfl
@[go_sem] theorem tb97:tby Tryd.prog 97=some 8:=by kernel_rfl
@[go_sem] theorem to97:tzero Tryd.prog 97=some AV.nilfn:=by kernel_rfl
@[go_sem] theorem ty99:tk Tryd.prog 99=.fn:=by kernel_rfl
@[go_sem] theorem tz99:tsz Tryd.prog 99=some 1:=by kernel_rfl
@[go_sem] theorem tb99:tby Tryd.prog 99=some 8:=by kernel_rfl
@[go_sem] theorem to99:tzero Tryd.prog 99=some AV.nilfn:=by kernel_rfl
@[go_sem] theorem ty100:tk Tryd.prog 100=.fn:=by kernel_rfl
@[go_sem] theorem tz100:tsz Tryd.prog 100=some 1:=by kernel_rfl
@[go_sem] theorem tb100:tby Tryd.prog 100=some 8:=by kernel_rfl
@[go_sem] theorem to100:tzero Tryd.prog 100=some AV.nilfn:=by kernel_rfl
@[go_sem] theorem ty101:tk Tryd.prog 101=.sl 33:=by kernel_rfl
@[go_sem] theorem tz101:tsz Tryd.prog 101=some 1:=by kernel_rfl
@[go_sem] theorem tb101:tby Tryd.prog 101=some 24:=by kernel_rfl
@[go_sem] theorem to101:tzero Tryd.prog 101=some AV.nilsl:=by kernel_rfl
@[go_sem] theorem ty102:tk Tryd.prog 102=.fn:=by kernel_rfl
@[go_sem] theorem tz102:tsz Tryd.prog 102=some 1:=by kernel_rfl
@[go_sem] theorem tb102:tby Tryd.prog 102=some 8:=by kernel_rfl
@[go_sem] theorem to102:tzero Tryd.prog 102=some AV.nilfn:=by kernel_rfl
@[go_sem] theorem ty103:tk Tryd.prog 103=.fn:=by kernel_rfl
@[go_sem] theorem tz103:tsz Tryd.prog 103=some 1:=by kernel_rfl
@[go_sem] theorem tb103:tby Tryd.prog 103=some 8:=by kernel_rfl
@[go_sem] theorem to103:tzero Tryd.prog 103=some AV.nilfn:=by kernel_rfl
@[go_sem] theorem ty106:tk Tryd.prog 106=.fn:=by kernel_rfl
@[go_sem] theorem tz106:tsz Tryd.prog 106=some 1:=by kernel_rfl
@[go_sem] theorem tb106:tby Tryd.prog 106=some 8:=by kernel_rfl
@[go_sem] theorem to106:tzero Tryd.prog 106=some AV.nilfn:=by kernel_rfl
@[go_sem] theorem ty107:tk Tryd.prog 107=.fn:=by kernel_rfl
@[go_sem] theorem tz107:tsz Tryd.prog 107=some 1:=by kernel_rfl
@[go_sem] theorem tb107:tby Tryd.prog 107=some 8:=by kernel_rfl
@[go_sem] theorem to107:tzero Tryd.prog 107=some AV.nilfn:=by kernel_rfl
@[go_sem] theorem ty110:tk Tryd.prog 110=.fn:=by kernel_rfl
@[go_sem] theorem tz110:tsz Tryd.prog 110=some 1:=by kernel_rfl
@[go_sem] theorem tb110:tby Tryd.prog 110=some 8:=by kernel_rfl
@[go_sem] theorem to110:tzero Tryd.prog 110=some AV.nilfn:=by kernel_rfl
@[go_sem] theorem ty112:tk Tryd.prog 112=.arr 3 3:=by kernel_rfl
@[go_sem] theorem tz112:tsz Tryd.prog 112=some 3:=by kernel_rfl
@[go_sem] theorem tb112:tby Tryd.prog 112=some 24:=by kernel_rfl
@[go_sem] theorem to112:tzero Tryd.prog 112=some (AV.agg [AV.int .i64 (0),AV.int .i64 (0),AV.int .i64 (0)]):=by kernel_rfl
@[go_sem] theorem ty113:tk Tryd.prog 113=.arr 3 112:=by kernel_rfl
@[go_sem] theorem tz113:tsz Tryd.prog 113=some 9:=by kernel_rfl
@[go_sem] theorem tb113:tby Tryd.prog 113=some 72:=by kernel_rfl
@[go_sem] theorem to113:tzero Tryd.prog 113=some (AV.agg [AV.int .i64 (0),AV.int .i64 (0),AV.int .i64 (0),AV.int .i64 (0),AV.int .i64 (0),AV.int .i64 (0),AV.int .i64 (0),AV.int .i64 (0),AV.int .i64 (0)]):=by kernel_rfl
@[go_sem] theorem ty119:tk Tryd.prog 119=.fn:=by kernel_rfl
@[go_sem] theorem tz119:tsz Tryd.prog 119=some 1:=by kernel_rfl
@[go_sem] theorem tb119:tby Tryd.prog 119=some 8:=by kernel_rfl
@[go_sem] theorem to119:tzero Tryd.prog 119=some AV.nilfn:=by kernel_rfl
@[go_sem] theorem ty127:tk Tryd.prog 127=.int .u32:=by kernel_rfl
@[go_sem] theorem tz127:tsz Tryd.prog 127=some 1:=by kernel_rfl
@[go_sem] theorem tb127:tby Tryd.prog 127=some 4:=by kernel_rfl
@[go_sem] theorem to127:tzero Tryd.prog 127=some (AV.int .u32 (0)):=by kernel_rfl
@[go_sem] theorem ty128:tk Tryd.prog 128=.sl 5:=by kernel_rfl
@[go_sem] theorem tz128:tsz Tryd.prog 128=some 1:=by kernel_rfl
@[go_sem] theorem tb128:tby Tryd.prog 128=some 24:=by kernel_rfl
@[go_sem] theorem to128:tzero Tryd.prog 128=some AV.nilsl:=by kernel_rfl
@[go_sem] theorem ty129:tk Tryd.prog 129=.int .u64:=by kernel_rfl
@[go_sem] theorem tz129:tsz Tryd.prog 129=some 1:=by kernel_rfl
@[go_sem] theorem tb129:tby Tryd.prog 129=some 8:=by kernel_rfl
@[go_sem] theorem to129:tzero Tryd.prog 129=some (AV.int .u64 (0)):=by kernel_rfl
@[go_sem] theorem ty132:tk Tryd.prog 132=.arr 9 5:=by kernel_rfl
@[go_sem] theorem tz132:tsz Tryd.prog 132=some 9:=by kernel_rfl
@[go_sem] theorem tb132:tby Tryd.prog 132=some 9:=by kernel_rfl
@[go_sem] theorem to132:tzero Tryd.prog 132=some (AV.agg [AV.int .u8 (0),AV.int .u8 (0),AV.int .u8 (0),AV.int .u8 (0),AV.int .u8 (0),AV.int .u8 (0),AV.int .u8 (0),AV.int .u8 (0),AV.int .u8 (0)]):=by kernel_rfl
@[go_sem] theorem ty133:tk Tryd.prog 133=.fn:=by kernel_rfl
@[go_sem] theorem tz133:tsz Tryd.prog 133=some 1:=by kernel_rfl
@[go_sem] theorem tb133:tby Tryd.prog 133=some 8:=by kernel_rfl
@[go_sem] theorem to133:tzero Tryd.prog 133=some AV.nilfn:=by kernel_rfl
@[go_sem] theorem ty134:tk Tryd.prog 134=.fn:=by kernel_rfl
@[go_sem] theorem tz134:tsz Tryd.prog 134=some 1:=by kernel_rfl
@[go_sem] theorem tb134:tby Tryd.prog 134=some 8:=by kernel_rfl
@[go_sem] theorem to134:tzero Tryd.prog 134=some AV.nilfn:=by kernel_rfl
@[go_sem] theorem ty141:tk Tryd.prog 141=.arr 256 4:=by kernel_rfl
@[go_sem] theorem tz141:tsz Tryd.prog 141=some 256:=by kernel_rfl
@[go_sem] theorem tb141:tby Tryd.prog 141=some 256:=by kernel_rfl
@[go_sem] theorem ty143:tk Tryd.prog 143=.fn:=by kernel_rfl
@[go_sem] theorem tz143:tsz Tryd.prog 143=some 1:=by kernel_rfl
@[go_sem] theorem tb143:tby Tryd.prog 143=some 8:=by kernel_rfl
@[go_sem] theorem to143:tzero Tryd.prog 143=some AV.nilfn:=by kernel_rfl
@[go_sem] theorem ty145:tk Tryd.prog 145=.ptr 141:=by kernel_rfl
@[go_sem] theorem tz145:tsz Tryd.prog 145=some 1:=by kernel_rfl
@[go_sem] theorem tb145:tby Tryd.prog 145=some 8:=by kernel_rfl
@[go_sem] theorem to145:tzero Tryd.prog 145=some AV.nilptr:=by kernel_rfl
@[go_sem] theorem ty160:tk Tryd.prog 160=.st [(0,17),(1,17),(2,17),(3,9)]:=by kernel_rfl
@[go_sem] theorem tz160:tsz Tryd.prog 160=some 4:=by kernel_rfl
@[go_sem] theorem tb160:tby Tryd.prog 160=some 40:=by kernel_rfl
@[go_sem] theorem to160:tzero Tryd.prog 160=some (AV.agg [AV.nilptr,AV.nilptr,AV.nilptr,AV.str []]):=by kernel_rfl
@[go_sem] theorem ty161:tk Tryd.prog 161=.arr 0 16:=by kernel_rfl
@[go_sem] theorem tz161:tsz Tryd.prog 161=some 0:=by kernel_rfl
@[go_sem] theorem tb161:tby Tryd.prog 161=some 0:=by kernel_rfl
@[go_sem] theorem to161:tzero Tryd.prog 161=some (AV.agg []):=by kernel_rfl
@[go_sem] theorem ty163:tk Tryd.prog 163=.st [(0,161)]:=by kernel_rfl
@[go_sem] theorem tz163:tsz Tryd.prog 163=some 0:=by kernel_rfl
@[go_sem] theorem tb163:tby Tryd.prog 163=some 0:=by kernel_rfl
@[go_sem] theorem to163:tzero Tryd.prog 163=some (AV.agg []):=by kernel_rfl
@[go_sem] theorem ty164:tk Tryd.prog 164=.int .u8:=by kernel_rfl
@[go_sem] theorem tz164:tsz Tryd.prog 164=some 1:=by kernel_rfl
@[go_sem] theorem tb164:tby Tryd.prog 164=some 1:=by kernel_rfl
@[go_sem] theorem to164:tzero Tryd.prog 164=some (AV.int .u8 (0)):=by kernel_rfl
@[go_sem] theorem ty165:tk Tryd.prog 165=.int .u8:=by kernel_rfl
@[go_sem] theorem tz165:tsz Tryd.prog 165=some 1:=by kernel_rfl
@[go_sem] theorem tb165:tby Tryd.prog 165=some 1:=by kernel_rfl
@[go_sem] theorem to165:tzero Tryd.prog 165=some (AV.int .u8 (0)):=by kernel_rfl
@[go_sem] theorem ty166:tk Tryd.prog 166=.fn:=by kernel_rfl
@[go_sem] theorem tz166:tsz Tryd.prog 166=some 1:=by kernel_rfl
@[go_sem] theorem tb166:tby Tryd.prog 166=some 8:=by kernel_rfl
@[go_sem] theorem to166:tzero Tryd.prog 166=some AV.nilfn:=by kernel_rfl
@[go_sem] theorem ty167:tk Tryd.prog 167=.ptr 5:=by kernel_rfl
@[go_sem] theorem tz167:tsz Tryd.prog 167=some 1:=by kernel_rfl
@[go_sem] theorem tb167:tby Tryd.prog 167=some 8:=by kernel_rfl
@[go_sem] theorem to167:tzero Tryd.prog 167=some AV.nilptr:=by kernel_rfl
@[go_sem] theorem ty168:tk Tryd.prog 168=.int .i32:=by kernel_rfl
@[go_sem] theorem tz168:tsz Tryd.prog 168=some 1:=by kernel_rfl
@[go_sem] theorem tb168:tby Tryd.prog 168=some 4:=by kernel_rfl
@[go_sem] theorem to168:tzero Tryd.prog 168=some (AV.int .i32 (0)):=by kernel_rfl
@[go_sem] theorem ty169:tk Tryd.prog 169=.int .i32:=by kernel_rfl
@[go_sem] theorem tz169:tsz Tryd.prog 169=some 1:=by kernel_rfl
@[go_sem] theorem tb169:tby Tryd.prog 169=some 4:=by kernel_rfl
@[go_sem] theorem to169:tzero Tryd.prog 169=some (AV.int .i32 (0)):=by kernel_rfl
@[go_sem] theorem ty171:tk Tryd.prog 171=.st [(0,12),(1,12),(2,127),(3,164),(4,5),(5,5),(6,165),(7,166),(8,167),(9,168),(10,169)]:=by kernel_rfl
@[go_sem] theorem tz171:tsz Tryd.prog 171=some 11:=by kernel_rfl
@[go_sem] theorem tb171:tby Tryd.prog 171=some 48:=by kernel_rfl
@[go_sem] theorem to171:tzero Tryd.prog 171=some (AV.agg [AV.int .u64 (0),AV.int .u64 (0),AV.int .u32 (0),AV.int .u8 (0),AV.int .u8 (0),AV.int .u8 (0),AV.int .u8 (0),AV.nilfn,AV.nilptr,AV.int .i32 (0),AV.int .i32 (0)]):=by kernel_rfl
theorem mixed:Tryd.prog.follows .mixedOrders=true:=by kernel_rfl
end Go.Gh

set_option linter.unusedSimpArgs false
namespace Go.Gh
open Go.Proofs
attribute [local irreducible] wpS wpR wpT
theorem nr1 {a:AV} (h:NR a):∀ x ∈ [a],NR x:=by simpa using h
theorem nr2' {a b:AV} (h:NR a) (h':NR b):∀ x ∈ [a,b],NR x:=by simp only [List.forall_mem_cons];exact ⟨h,h',by simp⟩
theorem nr3' {a b c:AV} (h:NR a) (h':NR b) (h'':NR c):∀ x ∈ [a,b,c],NR x:=by simp only [List.forall_mem_cons];exact ⟨h,h',h'',by simp⟩
theorem nr4' {a b c d:AV} (h:NR a) (h':NR b) (h'':NR c) (h3:NR d):∀ x ∈ [a,b,c,d],NR x:=by simp only [List.forall_mem_cons];exact ⟨h,h',h'',h3,by simp⟩
theorem getD_take {xs:List Nat} {k j:Nat} (h:j < k):(xs.take k).getD j 0=xs.getD j 0:=by
 rw [List.getD_eq_getElem?_getD,List.getElem?_take_of_lt h,← List.getD_eq_getElem?_getD]
theorem trim_at {xs:List Nat} (hd:Dg xs) {k:Nat} (hk:k≤xs.length) (hz:∀ j,k≤j→j < xs.length→xs.getD j 0=0) (hc:k=0 ∨ xs.getD (k - 1) 0 ≠ 0):dig (vl xs)=xs.take k:=by
 rw [← vl_take_zero hz]
 refine dig_vl (hd.take k) ?_
 rcases hc with rfl | q
 ·exact .inl (by simp)
 ·by_cases e:k=0
  ·subst e;exact .inl (by simp)
  ·refine .inr ?_
   rw [List.length_take,Nat.min_eq_left hk,getD_take (by omega)];exact q
theorem c_trim (xs:List Nat) (hd:Dg xs):PC Tryd.prog 87 [nums xs] (nat (vl xs)):=by
 refine PC.runF Tryd.func87 rfl (by kernel_rfl) (by simp [Tryd.ntmps87]) fun hF=>?_
 have la:xs.length≤9223372036854775807:=by simpa using (hF _ (by simp):Fit (nums xs)).vec
 rw [Tryd.ntmps87]
 (refine M_reg (h:=?_))
 (repeat (first | refine S_seq ?_ | refine S_block ?_ | refine S_blk ?_ | refine S_skip ?_))
 refine S_loop (fun k:Nat=>⟨21,[(0,nums (xs.take k))],⟨[],0⟩⟩) (fun k=>k≤xs.length∧∀ j,k≤j→j < xs.length→xs.getD j 0=0) (fun k=>k) xs.length ?_ ⟨Nat.le_refl _,fun j h1 h2=>by omega⟩ ?_
 ·((refine wk_slots ?_;simp only [go_sem,simprocAttr,List.take_length,fz_same]))
 ·rintro k ⟨hk,hz⟩
  by_cases h0:k=0
  ·subst h0
   (refine M_reg (h:=?_))
   (refine M_no (h:=?_))
   (refine M_out (h:=?_))
   (refine M_reg (h:=?_))
   rw [nat,trim_at hd (k:=0) (by omega) hz (.inl rfl)]
   (refine M_fin Tryd.results87 (h2:=?_))
   exact .nr _ (nr_nums _)
  ·have hg:((xs.take k).map fun d:Nat=>AV.int .u32 (d:Int)).getD (k - 1) .undef=.int .u32 ((xs.getD (k - 1) 0:Nat):Int):=by
    rw [getD_nums (by rw [List.length_take];omega),getD_take (by omega)]
   have hl:(xs.take k).length=k:=by rw [List.length_take];omega
   have e0:decide ((k:Int) > 0)=true:=decide_eq_true (by omega)
   have em:min k xs.length=k:=by omega
   have ek:((k:Int) - 1).toNat=k - 1:=by omega
   (refine M_reg (he:=by ((simp (disch:=first | omega | simp) only [go_sem,simprocAttr,em,e0,hg,ek]);rfl)) (h:=?_))
   (refine M_cnd (ht:=?_) (hf:=?_))
   ·intro h1
    (refine M_reg (he:=by ((simp (disch:=first | omega | simp) only [go_sem,simprocAttr,em,ek,take_nums,List.take_take,show min (k - 1) k=k - 1 by omega]);rfl)) (h:=?_))
    refine S_goal ⟨k - 1,?_,⟨by omega,fun j h2 h3=>?_⟩,by omega⟩
    ·(((refine wk_go (fun _=>False) ?_ ?_ (by first | exact Nat.le_refl _ | omega)) <;> simp only [go_sem,Sub,simprocAttr] <;> (try (first | rfl | exact ⟨rfl,rfl⟩))))
    ·by_cases e:j=k - 1
     ·subst e;omega
     ·exact hz j (by omega) h3
   ·intro h1
    (refine M_out (h:=?_))
    (refine M_reg (h:=?_))
    rw [nat,trim_at hd (k:=k) (by omega) hz (.inr (by omega))]
    (refine M_fin Tryd.results87 (h2:=?_))
    exact .nr _ (nr_nums _)
theorem c_trimA (xs:List Nat) (hd:Dg xs) (la:xs.length≤9223372036854775807) (v vc:Nat):AC Tryd.prog 87 [.sl 0 v 1 0 xs.length] ⟨[some ⟨v,1,xs.map fun d:Nat=>.int .u32 (d:Int)⟩],vc⟩ (fun r h=>r=.sl 0 v 1 0 (dig (vl xs)).length∧h=⟨[some ⟨v,1,xs.map fun d:Nat=>.int .u32 (d:Int)⟩],vc⟩):=by
 refine AC.run Tryd.func87 rfl (by kernel_rfl) (by simp [Tryd.ntmps87]) ?_
 rw [Tryd.ntmps87]
 (refine M_reg (h:=?_))
 (repeat (first | refine S_seq ?_ | refine S_block ?_ | refine S_blk ?_ | refine S_skip ?_))
 refine S_loop (fun k:Nat=>⟨21,[(0,.sl 0 v 1 0 k)],⟨[some ⟨v,1,xs.map fun d:Nat=>.int .u32 (d:Int)⟩],vc⟩⟩) (fun k=>k≤xs.length∧∀ j,k≤j→j < xs.length→xs.getD j 0=0) (fun k=>k) xs.length ?_ ⟨Nat.le_refl _,fun j h1 h2=>by omega⟩ ?_
 ·((refine wk_slots ?_;simp only [go_sem,simprocAttr,fz_same]))
 ·rintro k ⟨hk,hz⟩
  by_cases h0:k=0
  ·subst h0
   (refine M_reg (h:=?_))
   (refine M_no (h:=?_))
   (refine M_out (h:=?_))
   (refine M_reg (h:=?_))
   refine S_ret (finA (Q:=(fun r h=>r=.sl 0 v 1 0 (dig (vl xs)).length∧h=⟨[some ⟨v,1,xs.map fun d:Nat=>.int .u32 (d:Int)⟩],vc⟩)) (by (simp (disch:=first | omega | simp) only [go_sem,simprocAttr,Tryd.results87]);rfl) ⟨?_,rfl⟩)
   rw [trim_at hd (k:=0) (by omega) hz (.inl rfl),List.length_take,Nat.min_eq_left (by omega)];rfl
  ·have hg:=getD_nums (xs:=xs) (i:=k - 1) (by omega)
   have e0:decide ((k:Int) > 0)=true:=decide_eq_true (by omega)
   have em:min k xs.length=k:=by omega
   have ek:((k:Int) - 1).toNat=k - 1:=by omega
   (refine M_reg (he:=by ((simp (disch:=first | omega | simp) only [go_sem,simprocAttr,em,e0,hg,ek]);rfl)) (h:=?_))
   (refine M_cnd (ht:=?_) (hf:=?_))
   ·intro h1
    (refine M_reg (he:=by ((simp (disch:=first | omega | simp) only [go_sem,simprocAttr,ek,Nat.sub_zero]);rfl)) (h:=?_))
    refine S_goal ⟨k - 1,?_,⟨by omega,fun j h2 h3=>?_⟩,by omega⟩
    ·(((refine wk_go (fun _=>False) ?_ ?_ (by first | exact Nat.le_refl _ | omega)) <;> simp only [go_sem,Sub,simprocAttr] <;> (try (first | rfl | exact ⟨rfl,rfl⟩))))
    ·by_cases e:j=k - 1
     ·subst e;omega
     ·exact hz j (by omega) h3
   ·intro h1
    (refine M_out (h:=?_))
    (refine M_reg (h:=?_))
    refine S_ret (finA (Q:=(fun r h=>r=.sl 0 v 1 0 (dig (vl xs)).length∧h=⟨[some ⟨v,1,xs.map fun d:Nat=>.int .u32 (d:Int)⟩],vc⟩)) (by (simp (disch:=first | omega | simp) only [go_sem,simprocAttr,Tryd.results87]);rfl) ⟨?_,rfl⟩)
    rw [trim_at hd (k:=k) (by omega) hz (.inr (by omega)),List.length_take,Nat.min_eq_left (by omega)];rfl
end Go.Gh
